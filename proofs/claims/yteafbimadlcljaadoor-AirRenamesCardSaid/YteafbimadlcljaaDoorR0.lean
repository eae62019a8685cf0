/- The law: a code whose registers are rotated is like it, is right, and what is live is rotated -/
import Derived.Test.YteafbimadlcljaaDoorR5
namespace Go.Proofs.YteafbimadlcljaaDoor
open Go A

theorem D5 (n:Nat) (hn:5000000<n) (c:bh) (x:Int):eQ n c x=some true:=by
  have:T (eQ n c x) (fun b=>b=true):=by
    unfold eQ qb
    rw [Option.bind_some]
    refine T.ite (fun h=>by cases h) (fun _=>T.ite (fun _=>T.ret rfl) (fun h1=>T.ite (fun _=>T.ret rfl) (fun h2=>?_)))
    rw [decide_eq_false_iff_not] at h1 h2
    have hl:c.Steps.length≤120:=by omega
    obtain ⟨y,hy,hchk⟩:=v3 n c hl (by omega) (by omega)
    refine T.eqb hy (T.ite (fun _=>T.ret rfl) (fun h3=>?_))
    have hy0:y=0:=by simpa using h3
    subst hy0
    have hF:=hchk.1 rfl
    obtain ⟨R,hcR⟩:∃ R:Nat,c.Regs=(R:Int):=⟨c.Regs.toNat,by have:=hF.regs; omega⟩
    have hR:R≤60:=by omega
    have hok:zT c R:=Facts.ok hF.may hcR
    rw [hcR]
    refine (Gg n x hR).bind (fun y7 hy7=>?_)
    obtain ⟨w,rfl,hw⟩:=hy7
    have hf:=AJ hR hw
    have hown:iP n c=some (c.Regs,c.Steps):=by
      unfold iP gj
      rw [jF (Nat.ble_eq_true_of_le (by omega))]
      rfl
    refine T.eqb hown ((GJ n c _ hcR hl hok (by omega)).bind (fun t ht=>?_))
    subst ht
    have hd:bh.mk c.Regs (c.Steps.map (b8 (lx (R:Int) (w:Int))))=iA (lx (R:Int) (w:Int)) c:=rfl
    have hdl:(iA (lx (R:Int) (w:Int)) c).Steps.length=c.Steps.length:=by
      show (c.Steps.map _).length=_
      rw [List.length_map]
    have hcd:=BK n c hl hcR hR (by omega) hf hF
    have hokd:=xl hf hok
    dsimp only
    rw [hd]
    refine (EA hR n c hcR hl hy hok hn).bind (fun y10 hy10=>?_)
    obtain ⟨bs,rfl,hbs⟩:=hy10
    refine (EA hR n (iA (lx (R:Int) (w:Int)) c) hcR (by omega) hcd hokd hn).bind (fun y11 hy11=>?_)
    obtain ⟨bs',rfl,hbs'⟩:=hy11
    refine T.eqb (EC hf n (by omega) c hl hok) (T.ite (fun h=>by cases h) (fun _=>?_))
    have hback:=EC hf.symm n (by omega) (iA (lx (R:Int) (w:Int)) c) (by omega) hokd
    rw [v1 hf hok] at hback
    refine T.eqb hback (T.ite (fun h=>by cases h) (fun _=>T.eqb hcd (T.ite (fun h=>by cases h) (fun _=>T.ite (fun h=>?_) (fun _=>?_)))))
    · rw [List.length_map,List.length_map,hbs.len,hbs'.len,hdl] at h
      simp at h
    obtain ⟨z,hz1,hz2⟩:=Gf n (by omega) c (iA (lx (R:Int) (w:Int)) c) hl
    refine T.eqb hz1 (T.eqb hz2 (T.ite (fun h=>?_) (fun _=>?_)))
    · simp at h
    refine T.bind (P:=fun t=>t=.inl ()) ?_ (fun t ht=>by subst ht; exact T.ret rfl)
    refine T.loop c.Steps.length (fun i s=>s=(i:Int)) _ (fun i s hi hs=>?_) rfl (by omega)
    subst hs
    unfold eM
    refine T.ite (fun h=>?_) (fun _=>T.fin rfl)
    rw [decide_eq_true_eq,List.length_map,hbs.len] at h
    have hi1:i<c.Steps.length:=by omega
    have hib:i<bs.length:=by rw [hbs.len]; exact hi1
    have hib':i<bs'.length:=by rw [hbs'.len,hdl]; exact hi1
    have hb:∀ r,r<R→bs'[i].getLsbD (m9 R w r)=bs[i].getLsbD r:=fun r hr=>by
      have:=Db hR hw hok hbs hbs' (k:=i) hr
      rw [AM hib,AM hib'] at this
      cases h1:bs[i].getLsbD r with
      | true=>exact this.2 h1
      | false =>
        cases h2:bs'[i].getLsbD (m9 R w r) with
        | false=>rfl
        | true =>
          rw [this.1 h2] at h1
          cases h1
    refine T.get i rfl (by rw [List.length_map]; exact hib) (T.get i rfl (by rw [List.length_map]; exact hib') ?_)
    rw [List.getElem_map,List.getElem_map]
    refine T.ite (fun h=>?_) (fun _=>?_)
    · rw [D4 hw hb] at h
      simp at h
    · refine (Gi hR hw n (by omega) c hcR bs bs' i hib hib' hb).bind (fun t ht=>?_)
      subst ht
      exact T.next ⟨hi1,ga i (by omega)⟩
  obtain ⟨r,e,h⟩:=this
  rw [e,h]
theorem Dc (c:bh) (x:Int):eQ 6000000 c x=some true:=D5 _ (by omega) c x

end Go.Proofs.YteafbimadlcljaaDoor
