/- Sets of registers, as words -/
import Derived.Test.YtaiokpalfdbnnaaB5
namespace Go.Proofs.Ytaiokpalfdbnnaa
open Go A

abbrev WL:=List W
def sW (ls:WL):List Int:=ls.map wI
def nw (R:Nat):Nat:=(R + 63) / 64
def bw (ls:WL) (r:Nat):Bool:=((ls[r / 64]?).getD 0#64).getLsbD (r % 64)
theorem xP (ls:WL):(sW ls).length=ls.length:=List.length_map ..
theorem uN {ls:WL} {k:Nat} (h:k<ls.length):aY (sW ls) (k:Int)=some (wI ls[k]):=by
  rw [iv]
  unfold sW
  rw [List.getElem?_map,List.getElem?_eq_getElem h]
  rfl
theorem D6 (ls:WL) (k:Nat) (b:W):(sW ls).set k (wI b)=sW (ls.set k b):=by
  unfold sW
  rw [List.map_set]
theorem Hk {r:Nat} (h:r<100000):gU .i64 (r:Int) 64=((r / 64:Nat):Int)∧o_ .i64 (r:Int) 64=((r % 64:Nat):Int):=by
  unfold gU o_
  rw [Int.tdiv_eq_ediv_of_nonneg (by omega),Int.tmod_eq_emod_of_nonneg (by omega)]
  constructor
  · rw [show ((r:Int) / 64)=((r / 64:Nat):Int) by omega]
    exact GP (by omega) (by omega)
  · rw [show ((r:Int) % 64)=((r % 64:Nat):Int) by omega]
theorem words {R:Nat} (h:R≤1024):gU .i64 (al .i64 (R:Int) 63) 64=((nw R:Nat):Int):=by
  rw [show al .i64 (R:Int) 63=((R + 63:Nat):Int) from addN R 63 (by omega)]
  exact (Hk (by omega)).1
theorem E6 (k r:Nat):bw (List.replicate k 0#64) r=false:=by
  unfold bw
  rw [List.getElem?_replicate]
  split
  · show (0#64).getLsbD _=false
    exact BitVec.getLsbD_zero
  · show (0#64).getLsbD _=false
    exact BitVec.getLsbD_zero
theorem JO {R:Nat} (h:R≤1024) (n:Nat) (oA:List (Option (List Int))):pe n (R:Int) oA=some (sW (List.replicate (nw R) 0#64)):=by
  unfold pe
  have hw:nw R≤17:=by unfold nw; omega
  rw [words h,iZ (by simp [Nat.blt]; omega),Int.toNat_natCast]
  unfold sW
  rw [List.map_replicate]
  rfl
theorem Gz {ls:WL} {k:Nat} (hk:k<ls.length) (b:W) (q:Nat):bw (ls.set k b) q=if k=q / 64 then b.getLsbD (q % 64) else bw ls q:=by
  unfold bw
  rw [bA hk]
  split <;> rfl
theorem zx {ls:WL} {k:Nat} (hk:k<ls.length) (q:Nat) (hq:q / 64=k):bw ls q=(ls[k]).getLsbD (q % 64):=by
  unfold bw
  rw [hq,List.getElem?_eq_getElem hk]
  rfl
theorem Hl {R r:Nat} (h:R≤1024) (hr:r<R) (n:Nat) (oA:List (Option (List Int))) (oB:List Int) (ls:WL) (hl:ls.length=nw R):T (gz n (r:Int) oA oB (sW ls)) (fun y=>∃ o:WL,y=sW o∧o.length=nw R∧∀ q,bw o q=(bw ls q||decide (q=r))):=by
  have hk:r / 64<ls.length:=by unfold nw at hl; omega
  have hm:r % 64<64:=Nat.mod_lt _ (by omega)
  unfold gz
  rw [(Hk (r:=r) (by omega)).1,(Hk (r:=r) (by omega)).2]
  refine T.eqb (uN hk) (T.grd (decide_eq_true (Int.natCast_nonneg _)) (T.ret ⟨ls.set (r / 64) (ls[r / 64] ||| BitVec.twoPow 64 (r % 64)),?_,by rw [List.length_set]; exact hl,fun q=>?_⟩))
  · rw [Hb _ hm,H6,Int.toNat_natCast,D6]
  · rw [Gz hk]
    split
    · rename_i e
      rw [BitVec.getLsbD_or,BitVec.getLsbD_twoPow,zx hk q e.symm]
      congr 1
      have:(r % 64=q % 64)↔q=r:=by omega
      simp only [decide_eq_true hm,Bool.true_and,this]
    · rename_i e
      rw [decide_eq_false (fun e2=>e (by rw [e2])),Bool.or_false]
theorem H8 {R r:Nat} (h:R≤1024) (hr:r<R) (n:Nat) (ls:WL) (hl:ls.length=nw R):jX n (sW ls) (r:Int)=some (bw ls r):=by
  have hk:r / 64<ls.length:=by unfold nw at hl; omega
  unfold jX
  rw [(Hk (r:=r) (by omega)).1,(Hk (r:=r) (by omega)).2,uN hk,Option.bind_some,iZ (decide_eq_true (Int.natCast_nonneg _)),Hc _ _ (Nat.mod_lt _ (by omega)),zx hk r rfl]
theorem JP (a b:W):(wI a != wI b)=decide (a≠b):=by
  by_cases h:a=b
  · subst h; simp
  · have:wI a≠wI b:=fun e=>h (Gt e)
    simp [h,this]

/-! ### How many bits are set -/
theorem wH {p q:Nat→Bool}:∀ (l:List Nat),(∀ i,p i=true→q i=true)→(∃ j∈l,q j=true∧p j=false)→l.countP p<l.countP q
  | [],_,h=>by obtain ⟨j,hj,_⟩:=h; cases hj
  | x::l,h,hx=>by
    have le:l.countP p≤l.countP q:=List.countP_mono_left (fun i _=>h i)
    rw [List.countP_cons,List.countP_cons]
    obtain ⟨j,hj,h1,h2⟩:=hx
    rcases List.mem_cons.1 hj with rfl | hj
    · rw [h1,h2]
      simp
      omega
    · have:=wH l h ⟨j,hj,h1,h2⟩
      have:(if p x=true then 1 else 0)≤(if q x=true then 1 else 0):=by
        cases hp:p x with
        | false=>simp
        | true=>rw [h x hp]; simp
      omega
def pc (b:W):Nat:=(List.range 64).countP (fun i=>b.getLsbD i)
theorem Hm (b:W):pc b≤64:=by
  have:=List.countP_le_length (p:=fun i=>b.getLsbD i) (l:=List.range 64)
  rwa [List.length_range] at this
theorem Hn {a b:W} (h:∀ i,a.getLsbD i=true→b.getLsbD i=true) (hne:a≠b):pc a<pc b:=by
  refine wH _ h ?_
  by_cases hx:∃ j∈List.range 64,b.getLsbD j=true∧a.getLsbD j=false
  · exact hx
  · exfalso
    apply hne
    apply BitVec.eq_of_getLsbD_eq
    intro i hi
    cases ha:a.getLsbD i with
    | true=>exact (h i ha).symm
    | false =>
      cases hb:b.getLsbD i with
      | false=>rfl
      | true=>exact (hx ⟨i,List.mem_range.2 hi,hb,ha⟩).elim
theorem D7 {a b:W} (h:a &&& b≠a):pc (a &&& b)<pc a:=Hn (fun i hi=>by rw [BitVec.getLsbD_and] at hi; simp at hi; exact hi.1) h
def xW (ls:WL):Nat:=(ls.map pc).sum
theorem D8 (ls:WL):xW ls≤64 * ls.length:=o7 pc 64 ls (fun x _=>Hm x)
/-- One set met with another. -/
theorem GA (n:Nat) (hn:100≤n) (oA:List (Option (List Int))) (oB:Nat) (oC:List Int) (o b:WL) (hl:o.length=b.length) (h17:b.length≤17) :
    T (f9 n oA oB oC (sW o) (sW b)) (fun y=>∃ b':WL,y.2=sW b'∧b'.length=b.length∧(∀ q,bw b' q=(bw b q&&bw o q))∧((y.1=false∧b'=b)∨(y.1=true∧xW b'<xW b))):=by
  unfold f9
  refine T.bind (P:=fun t=>∃ b':WL,t.1=sW b'∧b'.length=b.length∧(∀ q,bw b' q=(bw b q&&bw o q))∧((t.2=false∧b'=b)∨(t.2=true∧xW b'<xW b))) ?_ (fun t ht=>T.ret ht)
  refine T.loop b.length (fun i s=>∃ (b':WL) (ch:Bool),s=(sW b',ch,(i:Int))∧b'.length=b.length∧(∀ k,(hk:k<b'.length)→(hk2:k<b.length)→(hk3:k<o.length)→b'[k]=if k<i then b[k] &&& o[k] else b[k])∧((ch=false∧b'=b)∨(ch=true∧xW b'<xW b))) _ (fun i s hi hs=>?_) ⟨b,false,rfl,rfl,fun k _ _ _=>by rw [if_neg (by omega)],.inl ⟨rfl,rfl⟩⟩ (by omega)
  obtain ⟨b',ch,rfl,h1,h2,h3⟩:=hs
  unfold eh
  refine T.ite (fun h=>?_) (fun h=>?_)
  · have h:=of_decide_eq_true h
    have h:(i:Int)<((sW o).length:Int):=h
    rw [xP] at h
    have hi':i<b.length:=by omega
    have hx:al .i64 (i:Int) 1=((i + 1:Nat):Int):=dM i (by omega)
    have hb2:=h2 i (by omega) hi' (by omega)
    rw [if_neg (by omega)] at hb2
    have nxt:∀ ch2:Bool,((ch2=false∧ch=false∧b[i] &&& o[i]'(by omega)=b[i])∨(ch2=true∧(ch=true∨b[i] &&& o[i]'(by omega)≠b[i])))→T (some (.inl ((sW b').set ((i:Int)).toNat (fC .u64 (wI (b'[i]'(by omega))) (wI (o[i]'(by omega)))),ch2,al .i64 (i:Int) 1):(List Int×Bool×Int)⊕(List Int×Bool))) (Rd (fun s'=>i<b.length∧∃ (b':WL) (ch:Bool),s'=(sW b',ch,((i + 1:Nat):Int))∧b'.length=b.length∧(∀ k,(hk:k<b'.length)→(hk2:k<b.length)→(hk3:k<o.length)→b'[k]=if k<i + 1 then b[k] &&& o[k] else b[k])∧((ch=false∧b'=b)∨(ch=true∧xW b'<xW b))) (fun t=>∃ b':WL,t.1=sW b'∧b'.length=b.length∧(∀ q,bw b' q=(bw b q&&bw o q))∧((t.2=false∧b'=b)∨(t.2=true∧xW b'<xW b)))):=fun ch2 hc2=>by
      refine T.next ⟨hi',b'.set i (b[i] &&& o[i]),ch2,?_,by rw [List.length_set]; exact h1,fun k hk hk2 hk3=>?_,?_⟩
      · rw [hx,Int.toNat_natCast,DU,D6,hb2]
      · rw [List.getElem_set]
        split
        · rename_i e
          subst e
          rw [if_pos (by omega)]
        · rename_i e
          rw [h2 k (by rw [List.length_set] at hk; exact hk) hk2 hk3]
          by_cases e2:k<i
          · rw [if_pos e2,if_pos (by omega)]
          · rw [if_neg e2,if_neg (by omega)]
      · have hs:=lM pc b' i (by omega) (b[i] &&& o[i]'(by omega))
        rw [hb2] at hs
        rcases hc2 with ⟨rfl,rfl,e⟩ | ⟨rfl,e⟩
        · rcases h3 with ⟨_,rfl⟩ | ⟨h3,_⟩
          · exact .inl ⟨rfl,by rw [e]; exact List.set_getElem_self (by omega)⟩
          · cases h3
        · refine .inr ⟨rfl,?_⟩
          have hle:pc (b[i] &&& o[i]'(by omega))≤pc b[i]:=by
            by_cases e3:b[i] &&& o[i]'(by omega)=b[i]
            · rw [e3]; exact Nat.le_refl _
            · exact Nat.le_of_lt (D7 e3)
          unfold xW
          unfold xW at h3
          rcases e with e | e
          · subst e
            rcases h3 with ⟨h3,_⟩ | ⟨_,h3⟩
            · cases h3
            · omega
          · have:=D7 e
            rcases h3 with ⟨_,rfl⟩ | ⟨_,h3⟩ <;> omega
    refine T.eqb (uN (by omega)) (T.ite (fun hc=>T.eqb (uN (by omega)) (nxt true (.inr ⟨rfl,.inl hc⟩))) (fun hc=>T.eqb (uN (by omega)) (nxt _ ?_)))
    have hc:ch=false:=hc
    show (((fC .u64 (wI (b'[i]'(by omega))) (wI (o[i]'(by omega)))) != wI (b'[i]'(by omega)))=false∧_)∨(((fC .u64 (wI (b'[i]'(by omega))) (wI (o[i]'(by omega)))) != wI (b'[i]'(by omega)))=true∧_)
    rw [DU,JP,hb2]
    by_cases e:b[i] &&& o[i]'(by omega)=b[i]
    · exact .inl ⟨decide_eq_false (fun h=>h e),hc,e⟩
    · exact .inr ⟨decide_eq_true e,.inr e⟩
  · have h:=of_decide_eq_false h
    have h:¬ (i:Int)<((sW o).length:Int):=h
    rw [xP] at h
    refine T.fin ⟨b',rfl,h1,fun q=>?_,h3⟩
    by_cases hq:q / 64<b.length
    · rw [zx (by omega:q / 64<b'.length) q rfl,zx hq q rfl,zx (by omega:q / 64<o.length) q rfl,h2 (q / 64) (by omega) hq (by omega),if_pos (by omega),BitVec.getLsbD_and]
    · unfold bw
      rw [List.getElem?_eq_none (by omega),List.getElem?_eq_none (by omega)]
      show (0#64).getLsbD _=((0#64).getLsbD _&&_)
      rw [BitVec.getLsbD_zero,Bool.false_and]

end Go.Proofs.Ytaiokpalfdbnnaa
