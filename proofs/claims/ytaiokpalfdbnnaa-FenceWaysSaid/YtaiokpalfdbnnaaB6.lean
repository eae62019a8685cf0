/- Sets of registers, as words -/
import Derived.Test.YtaiokpalfdbnnaaB5
namespace Go.Proofs.Ytaiokpalfdbnnaa
open Go A

abbrev WL:=List W
def sW (ls:WL):List Int:=ls.map wI
def nw (R:Nat):Nat:=(R + 63) / 64
def bw (ls:WL) (r:Nat):Bool:=((ls[r / 64]?).getD 0#64).getLsbD (r % 64)
theorem zt (ls:WL):(sW ls).length=ls.length:=List.length_map ..
theorem wo {ls:WL} {k:Nat} (h:k<ls.length):aT (sW ls) (k:Int)=some (wI ls[k]):=by
  rw [jn]
  unfold sW
  rw [List.getElem?_map,List.getElem?_eq_getElem h]
  rfl
theorem FK (ls:WL) (k:Nat) (b:W):(sW ls).set k (wI b)=sW (ls.set k b):=by
  unfold sW
  rw [List.map_set]
theorem IQ {r:Nat} (h:r<100000):iE .i64 (r:Int) 64=((r / 64:Nat):Int)∧qt .i64 (r:Int) 64=((r % 64:Nat):Int):=by
  unfold iE qt
  rw [Int.tdiv_eq_ediv_of_nonneg (by omega),Int.tmod_eq_emod_of_nonneg (by omega)]
  constructor
  · rw [show ((r:Int) / 64)=((r / 64:Nat):Int) by omega]
    exact Ie (by omega) (by omega)
  · rw [show ((r:Int) % 64)=((r % 64:Nat):Int) by omega]
theorem words {R:Nat} (h:R≤1024):iE .i64 (ah .i64 (R:Int) 63) 64=((nw R:Nat):Int):=by
  rw [show ah .i64 (R:Int) 63=((R + 63:Nat):Int) from addN R 63 (by omega)]
  exact (IQ (by omega)).1
theorem GD (k r:Nat):bw (List.replicate k 0#64) r=false:=by
  unfold bw
  rw [List.getElem?_replicate]
  split
  · show (0#64).getLsbD _=false
    exact BitVec.getLsbD_zero
  · show (0#64).getLsbD _=false
    exact BitVec.getLsbD_zero
theorem LK {R:Nat} (h:R≤1024) (n:Nat) (oA:List (Option (List Int))):qu n (R:Int) oA=some (sW (List.replicate (nw R) 0#64)):=by
  unfold qu
  have hw:nw R≤17:=by unfold nw; omega
  rw [words h,jQ (by simp [Nat.blt]; omega),Int.toNat_natCast]
  unfold sW
  rw [List.map_replicate]
  rfl
theorem HY {ls:WL} {k:Nat} (hk:k<ls.length) (b:W) (q:Nat):bw (ls.set k b) q=if k=q / 64 then b.getLsbD (q % 64) else bw ls q:=by
  unfold bw
  rw [bu hk]
  split <;> rfl
theorem AW {ls:WL} {k:Nat} (hk:k<ls.length) (q:Nat) (hq:q / 64=k):bw ls q=(ls[k]).getLsbD (q % 64):=by
  unfold bw
  rw [hq,List.getElem?_eq_getElem hk]
  rfl
theorem IR {R r:Nat} (h:R≤1024) (hr:r<R) (n:Nat) (oA:List (Option (List Int))) (oB:List Int) (ls:WL) (hl:ls.length=nw R):T (hH n (r:Int) oA oB (sW ls)) (fun y=>∃ o:WL,y=sW o∧o.length=nw R∧∀ q,bw o q=(bw ls q||decide (q=r))):=by
  have hk:r / 64<ls.length:=by unfold nw at hl; omega
  have hm:r % 64<64:=Nat.mod_lt _ (by omega)
  unfold hH
  rw [(IQ (r:=r) (by omega)).1,(IQ (r:=r) (by omega)).2]
  refine T.eqb (wo hk) (T.grd (decide_eq_true (Int.natCast_nonneg _)) (T.ret ⟨ls.set (r / 64) (ls[r / 64] ||| BitVec.twoPow 64 (r % 64)),?_,by rw [List.length_set]; exact hl,fun q=>?_⟩))
  · rw [IG _ hm,J0,Int.toNat_natCast,FK]
  · rw [HY hk]
    split
    · rename_i e
      rw [BitVec.getLsbD_or,BitVec.getLsbD_twoPow,AW hk q e.symm]
      congr 1
      have:(r % 64=q % 64)↔q=r:=by omega
      simp only [decide_eq_true hm,Bool.true_and,this]
    · rename_i e
      rw [decide_eq_false (fun e2=>e (by rw [e2])),Bool.or_false]
theorem J2 {R r:Nat} (h:R≤1024) (hr:r<R) (n:Nat) (ls:WL) (hl:ls.length=nw R):kR n (sW ls) (r:Int)=some (bw ls r):=by
  have hk:r / 64<ls.length:=by unfold nw at hl; omega
  unfold kR
  rw [(IQ (r:=r) (by omega)).1,(IQ (r:=r) (by omega)).2,wo hk,Option.bind_some,jQ (decide_eq_true (Int.natCast_nonneg _)),IH _ _ (Nat.mod_lt _ (by omega)),AW hk r rfl]
theorem LL (a b:W):(wI a != wI b)=decide (a≠b):=by
  by_cases h:a=b
  · subst h; simp
  · have:wI a≠wI b:=fun e=>h (HT e)
    simp [h,this]

/-! ### How many bits are set -/
theorem yk {p q:Nat→Bool}:∀ (l:List Nat),(∀ i,p i=true→q i=true)→(∃ j∈l,q j=true∧p j=false)→l.countP p<l.countP q
  | [],_,h=>by obtain ⟨j,hj,_⟩:=h; cases hj
  | x::l,h,hx=>by
    have le:l.countP p≤l.countP q:=List.countP_mono_left (fun i _=>h i)
    rw [List.countP_cons,List.countP_cons]
    obtain ⟨j,hj,h1,h2⟩:=hx
    rcases List.mem_cons.1 hj with rfl | hj
    · rw [h1,h2]
      simp
      omega
    · have:=yk l h ⟨j,hj,h1,h2⟩
      have:(if p x=true then 1 else 0)≤(if q x=true then 1 else 0):=by
        cases hp:p x with
        | false=>simp
        | true=>rw [h x hp]; simp
      omega
def pc (b:W):Nat:=(List.range 64).countP (fun i=>b.getLsbD i)
theorem IS (b:W):pc b≤64:=by
  have:=List.countP_le_length (p:=fun i=>b.getLsbD i) (l:=List.range 64)
  rwa [List.length_range] at this
theorem IT {a b:W} (h:∀ i,a.getLsbD i=true→b.getLsbD i=true) (hne:a≠b):pc a<pc b:=by
  refine yk _ h ?_
  by_cases hx:∃ j∈List.range 64,b.getLsbD j=true∧a.getLsbD j=false
  · exact hx
  · exfalso
    apply hne
    apply BitVec.eq_of_getLsbD_eq
    intro i hi
    cases ha:a.getLsbD i with
    | true=>exact (h i ha).symm
    | false =>
      cases hb:b.getLsbD i with
      | false=>rfl
      | true=>exact (hx ⟨i,List.mem_range.2 hi,hb,ha⟩).elim
theorem FL {a b:W} (h:a &&& b≠a):pc (a &&& b)<pc a:=IT (fun i hi=>by rw [BitVec.getLsbD_and] at hi; simp at hi; exact hi.1) h
def zC (ls:WL):Nat:=(ls.map pc).sum
theorem FM (ls:WL):zC ls≤64 * ls.length:=qm pc 64 ls (fun x _=>IS x)
/-- One set met with another. -/
theorem HZ (n:Nat) (hn:100≤n) (oA:List (Option (List Int))) (oB:Nat) (oC:List Int) (o b:WL) (hl:o.length=b.length) (h17:b.length≤17) :
    T (gH n oA oB oC (sW o) (sW b)) (fun y=>∃ b':WL,y.2=sW b'∧b'.length=b.length∧(∀ q,bw b' q=(bw b q&&bw o q))∧((y.1=false∧b'=b)∨(y.1=true∧zC b'<zC b))):=by
  unfold gH
  refine T.bind (P:=fun t=>∃ b':WL,t.1=sW b'∧b'.length=b.length∧(∀ q,bw b' q=(bw b q&&bw o q))∧((t.2=false∧b'=b)∨(t.2=true∧zC b'<zC b))) ?_ (fun t ht=>T.ret ht)
  refine T.loop b.length (fun i s=>∃ (b':WL) (ch:Bool),s=(sW b',ch,(i:Int))∧b'.length=b.length∧(∀ k,(hk:k<b'.length)→(hk2:k<b.length)→(hk3:k<o.length)→b'[k]=if k<i then b[k] &&& o[k] else b[k])∧((ch=false∧b'=b)∨(ch=true∧zC b'<zC b))) _ (fun i s hi hs=>?_) ⟨b,false,rfl,rfl,fun k _ _ _=>by rw [if_neg (by omega)],.inl ⟨rfl,rfl⟩⟩ (by omega)
  obtain ⟨b',ch,rfl,h1,h2,h3⟩:=hs
  unfold eK
  refine T.ite (fun h=>?_) (fun h=>?_)
  · have h:=of_decide_eq_true h
    have h:(i:Int)<((sW o).length:Int):=h
    rw [zt] at h
    have hi':i<b.length:=by omega
    have hx:ah .i64 (i:Int) 1=((i + 1:Nat):Int):=cN i (by omega)
    have hb2:=h2 i (by omega) hi' (by omega)
    rw [if_neg (by omega)] at hb2
    have nxt:∀ ch2:Bool,((ch2=false∧ch=false∧b[i] &&& o[i]'(by omega)=b[i])∨(ch2=true∧(ch=true∨b[i] &&& o[i]'(by omega)≠b[i])))→T (some (.inl ((sW b').set ((i:Int)).toNat (fZ .u64 (wI (b'[i]'(by omega))) (wI (o[i]'(by omega)))),ch2,ah .i64 (i:Int) 1):(List Int×Bool×Int)⊕(List Int×Bool))) (Rd (fun s'=>i<b.length∧∃ (b':WL) (ch:Bool),s'=(sW b',ch,((i + 1:Nat):Int))∧b'.length=b.length∧(∀ k,(hk:k<b'.length)→(hk2:k<b.length)→(hk3:k<o.length)→b'[k]=if k<i + 1 then b[k] &&& o[k] else b[k])∧((ch=false∧b'=b)∨(ch=true∧zC b'<zC b))) (fun t=>∃ b':WL,t.1=sW b'∧b'.length=b.length∧(∀ q,bw b' q=(bw b q&&bw o q))∧((t.2=false∧b'=b)∨(t.2=true∧zC b'<zC b)))):=fun ch2 hc2=>by
      refine T.next ⟨hi',b'.set i (b[i] &&& o[i]),ch2,?_,by rw [List.length_set]; exact h1,fun k hk hk2 hk3=>?_,?_⟩
      · rw [hx,Int.toNat_natCast,Fy,FK,hb2]
      · rw [List.getElem_set]
        split
        · rename_i e
          subst e
          rw [if_pos (by omega)]
        · rename_i e
          rw [h2 k (by rw [List.length_set] at hk; exact hk) hk2 hk3]
          by_cases e2:k<i
          · rw [if_pos e2,if_pos (by omega)]
          · rw [if_neg e2,if_neg (by omega)]
      · have hs:=mQ pc b' i (by omega) (b[i] &&& o[i]'(by omega))
        rw [hb2] at hs
        rcases hc2 with ⟨rfl,rfl,e⟩ | ⟨rfl,e⟩
        · rcases h3 with ⟨_,rfl⟩ | ⟨h3,_⟩
          · exact .inl ⟨rfl,by rw [e]; exact List.set_getElem_self (by omega)⟩
          · cases h3
        · refine .inr ⟨rfl,?_⟩
          have hle:pc (b[i] &&& o[i]'(by omega))≤pc b[i]:=by
            by_cases e3:b[i] &&& o[i]'(by omega)=b[i]
            · rw [e3]; exact Nat.le_refl _
            · exact Nat.le_of_lt (FL e3)
          unfold zC
          unfold zC at h3
          rcases e with e | e
          · subst e
            rcases h3 with ⟨h3,_⟩ | ⟨_,h3⟩
            · cases h3
            · omega
          · have:=FL e
            rcases h3 with ⟨_,rfl⟩ | ⟨_,h3⟩ <;> omega
    refine T.eqb (wo (by omega)) (T.ite (fun hc=>T.eqb (wo (by omega)) (nxt true (.inr ⟨rfl,.inl hc⟩))) (fun hc=>T.eqb (wo (by omega)) (nxt _ ?_)))
    have hc:ch=false:=hc
    show (((fZ .u64 (wI (b'[i]'(by omega))) (wI (o[i]'(by omega)))) != wI (b'[i]'(by omega)))=false∧_)∨(((fZ .u64 (wI (b'[i]'(by omega))) (wI (o[i]'(by omega)))) != wI (b'[i]'(by omega)))=true∧_)
    rw [Fy,LL,hb2]
    by_cases e:b[i] &&& o[i]'(by omega)=b[i]
    · exact .inl ⟨decide_eq_false (fun h=>h e),hc,e⟩
    · exact .inr ⟨decide_eq_true e,.inr e⟩
  · have h:=of_decide_eq_false h
    have h:¬ (i:Int)<((sW o).length:Int):=h
    rw [zt] at h
    refine T.fin ⟨b',rfl,h1,fun q=>?_,h3⟩
    by_cases hq:q / 64<b.length
    · rw [AW (by omega:q / 64<b'.length) q rfl,AW hq q rfl,AW (by omega:q / 64<o.length) q rfl,h2 (q / 64) (by omega) hq (by omega),if_pos (by omega),BitVec.getLsbD_and]
    · unfold bw
      rw [List.getElem?_eq_none (by omega),List.getElem?_eq_none (by omega)]
      show (0#64).getLsbD _=((0#64).getLsbD _&&_)
      rw [BitVec.getLsbD_zero,Bool.false_and]

end Go.Proofs.Ytaiokpalfdbnnaa
