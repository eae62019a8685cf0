/- The sets of what is live: the worklist -/
import Derived.Test.YteafbimadlcljaaDoorA6
namespace Go.Proofs.YteafbimadlcljaaDoor
open Go A

/-- What is live ahead of a step, out of the sets behind it. -/
def xk (c:bh) (bs:List W) (k:Nat) (s:ab) (r:Nat):Prop:=(r:Int)∈yN s∨(∃ j:Nat,(j:Int)∈xd c k∧gb bs j r)∧¬ ((rv s).2=true∧(rv s).1=(r:Int))
/-- A way from a step to one that reads a register, ahead of one that writes it. -/
inductive LR (c:bh) (r:Nat):Nat→Prop
  | here {k:Nat} {s:ab} (hs:c.Steps[k]?=some s) (h:(r:Int)∈yN s):LR c r k
  | next {k j:Nat} {s:ab} (hs:c.Steps[k]?=some s) (hw:¬ ((rv s).2=true∧(rv s).1=(r:Int))) (hj:(j:Int)∈xd c k) (h:LR c r j):LR c r k
def Ah (al:List (Option (List Nat))):List (Option (List Int)):=al.map (Option.map Ns)
theorem C1 {al:List (Option (List Nat))} {k:Nat} (h:k<al.length):aH (Ah al) (k:Int)=some (al[k].map Ns):=by
  rw [ko]
  unfold Ah
  rw [List.getElem?_map,List.getElem?_eq_getElem h]
  rfl
theorem C2 {al:List (Option (List Nat))} (k:Nat) (l:List Nat):(Ah al).set ((k:Int)).toNat (some (Ns l))=Ah (al.set k (some l)):=by
  unfold Ah
  rw [Int.toNat_natCast,List.map_set]
  rfl
/-- Who comes ahead of each step. -/
def G5 (c:bh) (al:List (Option (List Nat))):Prop:=al.length=c.Steps.length∧(∀ (k:Nat) (l:List Nat),al[k]?=some (some l)→(∀ j∈l,j<c.Steps.length)∧l.length≤240)∧∀ a,a<c.Steps.length→∀ k:Nat,(k:Int)∈xd c a→∃ l,al[k]?=some (some l)∧a∈l

def mB (bs:List W):Nat:=(bs.map (fun b=>64 - pc b)).sum
structure LI (c:bh) (R:Nat) (bs:List W) (ws:List Nat):Prop where
  len:bs.length=c.Steps.length
  wk:∀ j∈ws,j<c.Steps.length
  up:∀ k s,c.Steps[k]?=some s→∀ r,r<R→gb bs k r→xk c bs k s r
  dn:∀ k s,c.Steps[k]?=some s→k ∉ ws→∀ r,r<R→xk c bs k s r→gb bs k r
  lr:∀ k,∀ r,r<R→gb bs k r→LR c r k

theorem m1 {bs:List W} {k j r:Nat} {b:W} (hk:k<bs.length):gb (bs.set k b) j r↔(j=k∧b.getLsbD r=true)∨(j≠k∧gb bs j r):=by
  unfold gb
  by_cases e:j=k
  · subst e
    rw [List.getElem?_set_self hk]
    simp
  · rw [List.getElem?_set_ne (fun h=>e h.symm)]
    simp [e]
theorem DW (a b:W):pc a≤pc (a ||| b):=by
  by_cases h:a ||| b=a
  · rw [h]; exact Nat.le_refl _
  · exact Nat.le_of_lt (Ey h)
/-- One set grows. -/
theorem LI.grow {c:bh} {R:Nat} (hR:R≤60) {bs:List W} {init add:List Nat} {k:Nat} {s:ab} {nw:W} (h:LI c R bs (init++[k])) (hk:k<bs.length) (hs:c.Steps[k]?=some s) (hnw:∀ r,r<64→(nw.getLsbD r=true↔xk c bs k s r))
    (hadd:∀ j∈add,j<c.Steps.length) (hpre:(R≠0∧bs[k] ||| nw≠bs[k])→∀ a,a<c.Steps.length→(k:Int)∈xd c a→a∈add):LI c R (bs.set k (bs[k] ||| nw)) (init++add):=by
  have hb:∀ j r,gb bs j r→gb (bs.set k (bs[k] ||| nw)) j r:=fun j r hj=>by
    rw [m1 hk]
    by_cases e:j=k
    · subst e
      obtain ⟨b,h1,h2⟩:=hj
      rw [List.getElem?_eq_getElem hk] at h1
      cases h1
      exact .inl ⟨rfl,by rw [BitVec.getLsbD_or,h2]; rfl⟩
    · exact .inr ⟨e,hj⟩
  have hn:∀ j t r,xk c bs j t r→xk c (bs.set k (bs[k] ||| nw)) j t r:=fun j t r hj=>by
    rcases hj with h1 | ⟨⟨i,h1,h2⟩,h3⟩
    · exact .inl h1
    · exact .inr ⟨⟨i,h1,hb _ _ h2⟩,h3⟩
  have hkb:∀ r,r<R→gb (bs.set k (bs[k] ||| nw)) k r→gb bs k r∨xk c bs k s r:=fun r hr hj=>by
    rw [m1 hk] at hj
    rcases hj with ⟨_,h1⟩ | ⟨h1,_⟩
    · rw [BitVec.getLsbD_or,Bool.or_eq_true] at h1
      rcases h1 with h1 | h1
      · exact .inl ⟨_,List.getElem?_eq_getElem hk,h1⟩
      · exact .inr ((hnw r (by omega)).1 h1)
    · exact (h1 rfl).elim
  have hlr:∀ r,r<R→xk c bs k s r→LR c r k:=fun r hr hj=>by
    rcases hj with h1 | ⟨⟨i,h1,h2⟩,h3⟩
    · exact .here hs h1
    · exact .next hs h3 h1 (h.lr i r hr h2)
  refine ⟨by rw [List.length_set]; exact h.len,fun j hj=>?_,fun j t ht r hr hj=>?_,fun j t ht hj r hr hnow=>?_,fun j r hr hj=>?_⟩
  · rcases List.mem_append.1 hj with hj | hj
    · exact h.wk j (List.mem_append_left _ hj)
    · exact hadd j hj
  · by_cases e:j=k
    · subst e
      rw [hs] at ht
      cases ht
      rcases hkb r hr hj with h1 | h1
      · exact hn _ _ _ (h.up j s hs r hr h1)
      · exact hn _ _ _ h1
    · rw [m1 hk] at hj
      rcases hj with ⟨h1,_⟩ | ⟨_,h1⟩
      · exact (e h1).elim
      · exact hn _ _ _ (h.up j t ht r hr h1)
  · have hj1:j ∉ init:=fun h=>hj (List.mem_append_left _ h)
    have hj2:j ∉ add:=fun h=>hj (List.mem_append_right _ h)
    have hjN:j<c.Steps.length:=(List.getElem?_eq_some_iff.1 ht).1
    -- what was known already
    have old:xk c bs j t r:=by
      rcases hnow with h1 | ⟨⟨i,h1,h2⟩,h3⟩
      · exact .inl h1
      · refine .inr ⟨⟨i,h1,?_⟩,h3⟩
        by_cases e:i=k
        · subst e
          by_cases hc:R≠0∧bs[i] ||| nw≠bs[i]
          · exact (hj2 (hpre hc j hjN h1)).elim
          · have hc:bs[i] ||| nw=bs[i]:=by
              by_cases h0:bs[i] ||| nw=bs[i]
              · exact h0
              · exact (hc ⟨by omega,h0⟩).elim
            rw [hc,List.set_getElem_self] at h2
            exact h2
        · rw [m1 hk] at h2
          rcases h2 with ⟨h4,_⟩ | ⟨_,h4⟩
          · exact (e h4).elim
          · exact h4
    by_cases e:j=k
    · subst e
      rw [hs] at ht
      cases ht
      rw [m1 hk]
      exact .inl ⟨rfl,by rw [BitVec.getLsbD_or,(hnw r (by omega)).2 old,Bool.or_true]⟩
    · refine hb _ _ (h.dn j t ht (fun hm=>?_) r hr old)
      rcases List.mem_append.1 hm with hm | hm
      · exact hj1 hm
      · exact e (List.mem_singleton.1 hm)
  · by_cases e:j=k
    · subst e
      rcases hkb r hr hj with h1 | h1
      · exact h.lr j r hr h1
      · exact hlr r hr h1
    · rw [m1 hk] at hj
      rcases hj with ⟨h1,_⟩ | ⟨_,h1⟩
      · exact (e h1).elim
      · exact h.lr j r hr h1

theorem Fv {R B:Nat} (hR:R≤60) (n:Nat) (c:bh) (hcR:c.Regs=(R:Int)) (hl:c.Steps.length≤120) (hok:∀ k (h:k<c.Steps.length),r5 c.Steps[k] (R:Int)) (hB:B≤5000000) (hn:B<n) (hn2:10≤n) (al:List (Option (List Nat))) (hal:G5 c al) (t1:List (Option (List Int))) (t3:List Int)
    (bs:List W) (ws:List Nat) (hli:LI c R bs ws) (hm:241 * mB bs + ws.length≤B) :
    T (iter (fun s=>il n c (t1,Ah al,t3) s) n (Ls R bs,Ns ws)) (fun t=>∃ bs',t=Ls R bs'∧LI c R bs' []):=by
  refine T.fall (fun m s=>∃ bs ws,s=(Ls R bs,Ns ws)∧LI c R bs ws∧241 * mB bs + ws.length=m∧m≤B) _ (fun m s hs=>?_) n (241 * mB bs + ws.length) _ ⟨bs,ws,rfl,hli,rfl,hm⟩ (by omega)
  clear hm hli
  obtain ⟨bs,ws,rfl,hli,rfl,hm⟩:=hs
  unfold il
  rcases snoc ws with rfl | ⟨init,k,rfl⟩
  · exact T.fin ⟨bs,rfl,hli⟩
  rw [List.length_append,List.length_singleton] at hm
  have hkN:k<c.Steps.length:=hli.wk k (List.mem_append_right _ (List.mem_singleton.2 rfl))
  have hkb:k<bs.length:=by rw [hli.len]; exact hkN
  rw [if_pos (by show decide (((Ns (init++[k])).length:Int)>0)=true; rw [eK,List.length_append]; simp)]
  dsimp only
  rw [xh (by omega),hcR]
  refine T.eqb xi (T.grd xj (T.eqb (F8 hR n _ _ _) (T.eqb (uh n c k hkN (by omega)) ?_)))
  rw [ui]
  refine (Ft (R:=R) n (by omega) c _ _ _ bs (by rw [hli.len]; exact AC c k hkN (by omega)) _).bind (fun t ht=>?_)
  obtain ⟨o,rfl,ho⟩:=ht
  refine T.get k rfl hkN (T.eqb (r4 n _) ?_)
  have hs:c.Steps[k]?=some c.Steps[k]:=List.getElem?_eq_getElem hkN
  -- what comes behind the reads
  have tail:∀ (o1:W),(∀ r,r<64→(o1.getLsbD r=true↔(∃ j:Nat,(j:Int)∈xd c k∧gb bs j r)∧¬ ((rv c.Steps[k]).2=true∧(rv c.Steps[k]).1=(r:Int)))) →
      T ((iter (fun s=>ed n c (t1,Ah al,t3) (k:Int) (Ls R bs,Ns init,sw R o) s) n (Ns init,sw R o1,yN c.Steps[k],((yN c.Steps[k]).length:Int),0)).bind fun ta11 =>
        (aH (Ls R bs) (k:Int)).bind fun xa12=>matchO xa12 none fun za13 =>
          (cz n (Ls R bs) (((k:Int)).toNat) (Ah al) ta11.1 ta11.2 za13).bind fun ya15 =>
          if ya15.1=true then
            (aH (Ah al) (k:Int)).bind fun xa17=>matchO xa17 (
              grd (Nat.ble ((ta11.1.length + 0) * 8) 140737488355328) <|
              some (.inl (((Ls R bs).set ((k:Int)).toNat (some ya15.2)),(ta11.1++([]:List Int))))) fun za18 =>
              grd (Nat.ble ((ta11.1.length + za18.length) * 8) 140737488355328) <|
              some (.inl (((Ls R bs).set ((k:Int)).toNat (some ya15.2)),(ta11.1++za18)))
          else
            some (.inl (((Ls R bs).set ((k:Int)).toNat (some ya15.2)),ta11.1):((List (Option (List Int)))×(List Int))⊕(List (Option (List Int)))))
        (Rd (fun s'=>∃ m',m'<241 * mB bs + (init++[k]).length∧∃ bs ws,s'=(Ls R bs,Ns ws)∧LI c R bs ws∧241 * mB bs + ws.length=m'∧m'≤B) (fun t=>∃ bs',t=Ls R bs'∧LI c R bs' [])):=fun o1 ho1=>by
    refine (Fu hR n (by omega) c _ _ _ _ (AA _).1 (hok k hkN).1 _ o1).bind (fun t ht=>?_)
    obtain ⟨nw,rfl,hnw⟩:=ht
    have hnw2:∀ r,r<64→(nw.getLsbD r=true↔xk c bs k c.Steps[k] r):=fun r hr=>by
      rw [hnw r hr,ho1 r hr]
      exact Iff.rfl
    refine T.eqb (zS hkb) ?_
    show T ((cz n _ _ _ _ (sw R nw) (sw R bs[k])).bind _) _
    refine T.eqb (Fs R n (by omega) _ _ _ _ bs[k] nw) ?_
    dsimp only
    rw [C0]
    have hmB:=r6 (fun b:W=>64 - pc b) bs k hkb (bs[k] ||| nw)
    have hmono:=DW bs[k] nw
    have hmB:mB (bs.set k (bs[k] ||| nw)) + (64 - pc bs[k])=mB bs + (64 - pc (bs[k] ||| nw)):=hmB
    have hle:=AE (bs[k] ||| nw)
    rw [List.length_append,List.length_singleton]
    refine T.ite (fun hc=>?_) (fun hc=>?_)
    · rw [decide_eq_true_eq] at hc
      have hlt:=Ey hc.2
      refine T.eqb (C1 (by rw [hal.1]; exact hkN)) (T.matchO (fun e=>?_) (fun z e=>?_))
      · rw [Option.map_eq_none_iff] at e
        have hli2:=hli.grow (add:=[]) hR hkb hs hnw2 (fun j hj=>by cases hj) (fun _ a ha hka=>by
          obtain ⟨l,h1,_⟩:=hal.2.2 a ha k hka
          rw [List.getElem?_eq_getElem (by rw [hal.1]; exact hkN),e] at h1
          cases h1)
        refine T.grd (xg (by rw [eK]; omega)) (T.next ⟨_,?_,_,_,?_,hli2,rfl,?_⟩)
        · rw [List.append_nil]; omega
        · rw [List.append_nil,List.append_nil]
        · rw [List.append_nil]; omega
      · rw [Option.map_eq_some_iff] at e
        obtain ⟨l,e,rfl⟩:=e
        have hlk:al[k]?=some (some l):=by rw [List.getElem?_eq_getElem (by rw [hal.1]; exact hkN),e]
        obtain ⟨hl1,hl2⟩:=hal.2.1 k l hlk
        have hli2:=hli.grow (add:=l) hR hkb hs hnw2 hl1 (fun _ a ha hka=>by
          obtain ⟨l',h1,h2⟩:=hal.2.2 a ha k hka
          rw [hlk] at h1
          cases h1
          exact h2)
        refine T.grd (xg (by rw [eK,eK]; omega)) (T.next ⟨_,?_,_,_,?_,hli2,rfl,?_⟩)
        · rw [List.length_append]; omega
        · unfold Ns; rw [List.map_append]
        · rw [List.length_append]; omega
    · rw [decide_eq_false_iff_not] at hc
      have hli2:=hli.grow (add:=[]) hR hkb hs hnw2 (fun j hj=>by cases hj) (fun h=>(hc h).elim)
      rw [List.append_nil] at hli2
      exact T.next ⟨_,by omega,_,_,rfl,hli2,rfl,by omega⟩
  refine T.ite (fun h=>?_) (fun h=>?_)
  · have hr:=(hok k hkN).2 h
    obtain ⟨r,hr1⟩:∃ r:Nat,(rv c.Steps[k]).1=(r:Int):=⟨(rv c.Steps[k]).1.toNat,by omega⟩
    rw [hr1] at hr ⊢
    refine T.eqb (F_ hR (by omega) n _ _ _ o) (T.eqb (o5 n _) (tail _ (fun q hq=>?_)))
    rw [BitVec.getLsbD_and,BitVec.getLsbD_not,BitVec.getLsbD_twoPow,Bool.and_eq_true,ho q hq,h,hr1]
    simp [hq]
    omega
  · refine T.eqb (o5 n _) (tail _ (fun q hq=>?_))
    rw [ho q hq,h]
    simp

end Go.Proofs.YteafbimadlcljaaDoor
