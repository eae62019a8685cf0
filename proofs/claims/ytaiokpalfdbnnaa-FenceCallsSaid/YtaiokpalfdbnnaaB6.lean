/- Sets of registers, as words -/
import Derived.Test.YtaiokpalfdbnnaaB5
namespace Go.Proofs.Ytaiokpalfdbnnaa
open Go A

abbrev WL:=List W
def sW (ls:WL):List Int:=ls.map wI
def nw (R:Nat):Nat:=(R + 63) / 64
def bw (ls:WL) (r:Nat):Bool:=((ls[r / 64]?).getD 0#64).getLsbD (r % 64)
theorem Ao (ls:WL):(sW ls).length=ls.length:=List.length_map ..
theorem xw {ls:WL} {k:Nat} (h:k<ls.length):az (sW ls) (k:Int)=some (wI ls[k]):=by
  rw [gJ]
  unfold sW
  rw [List.getElem?_map,List.getElem?_eq_getElem h]
  rfl
theorem GR (ls:WL) (k:Nat) (b:W):(sW ls).set k (wI b)=sW (ls.set k b):=by
  unfold sW
  rw [List.map_set]
theorem Km {r:Nat} (h:r<100000):i4 .i64 (r:Int) 64=((r / 64:Nat):Int)∧rx .i64 (r:Int) 64=((r % 64:Nat):Int):=by
  unfold i4 rx
  rw [Int.tdiv_eq_ediv_of_nonneg (by omega),Int.tmod_eq_emod_of_nonneg (by omega)]
  constructor
  · rw [show ((r:Int) / 64)=((r / 64:Nat):Int) by omega]
    exact JJ (by omega) (by omega)
  · rw [show ((r:Int) % 64)=((r % 64:Nat):Int) by omega]
theorem words {R:Nat} (h:R≤1024):i4 .i64 (ae .i64 (R:Int) 63) 64=((nw R:Nat):Int):=by
  rw [show ae .i64 (R:Int) 63=((R + 63:Nat):Int) from addN R 63 (by omega)]
  exact (Km (by omega)).1
theorem HV (k r:Nat):bw (List.replicate k 0#64) r=false:=by
  unfold bw
  rw [List.getElem?_replicate]
  split
  · show (0#64).getLsbD _=false
    exact BitVec.getLsbD_zero
  · show (0#64).getLsbD _=false
    exact BitVec.getLsbD_zero
theorem Oh {R:Nat} (h:R≤1024) (n:Nat) (oA:List (Option (List Int))):ry n (R:Int) oA=some (sW (List.replicate (nw R) 0#64)):=by
  unfold ry
  have hw:nw R≤17:=by unfold nw; omega
  rw [words h,kx (by simp [Nat.blt]; omega),Int.toNat_natCast]
  unfold sW
  rw [List.map_replicate]
  rfl
theorem Jr {ls:WL} {k:Nat} (hk:k<ls.length) (b:W) (q:Nat):bw (ls.set k b) q=if k=q / 64 then b.getLsbD (q % 64) else bw ls q:=by
  unfold bw
  rw [aW hk]
  split <;> rfl
theorem BW {ls:WL} {k:Nat} (hk:k<ls.length) (q:Nat) (hq:q / 64=k):bw ls q=(ls[k]).getLsbD (q % 64):=by
  unfold bw
  rw [hq,List.getElem?_eq_getElem hk]
  rfl
theorem Kn {R r:Nat} (h:R≤1024) (hr:r<R) (n:Nat) (oA:List (Option (List Int))) (oB:List Int) (ls:WL) (hl:ls.length=nw R):T (iB n (r:Int) oA oB (sW ls)) (fun y=>∃ o:WL,y=sW o∧o.length=nw R∧∀ q,bw o q=(bw ls q||decide (q=r))):=by
  have hk:r / 64<ls.length:=by unfold nw at hl; omega
  have hm:r % 64<64:=Nat.mod_lt _ (by omega)
  unfold iB
  rw [(Km (r:=r) (by omega)).1,(Km (r:=r) (by omega)).2]
  refine T.eqb (xw hk) (T.grd (decide_eq_true (Int.natCast_nonneg _)) (T.ret ⟨ls.set (r / 64) (ls[r / 64] ||| BitVec.twoPow 64 (r % 64)),?_,by rw [List.length_set]; exact hl,fun q=>?_⟩))
  · rw [Kd _ hm,Mq,Int.toNat_natCast,GR]
  · rw [Jr hk]
    split
    · rename_i e
      rw [BitVec.getLsbD_or,BitVec.getLsbD_twoPow,BW hk q e.symm]
      congr 1
      have:(r % 64=q % 64)↔q=r:=by omega
      simp only [decide_eq_true hm,Bool.true_and,this]
    · rename_i e
      rw [decide_eq_false (fun e2=>e (by rw [e2])),Bool.or_false]
theorem Mt {R r:Nat} (h:R≤1024) (hr:r<R) (n:Nat) (ls:WL) (hl:ls.length=nw R):lL n (sW ls) (r:Int)=some (bw ls r):=by
  have hk:r / 64<ls.length:=by unfold nw at hl; omega
  unfold lL
  rw [(Km (r:=r) (by omega)).1,(Km (r:=r) (by omega)).2,xw hk,Option.bind_some,kx (decide_eq_true (Int.natCast_nonneg _)),Ke _ _ (Nat.mod_lt _ (by omega)),BW hk r rfl]
theorem Oi (a b:W):(wI a != wI b)=decide (a≠b):=by
  by_cases h:a=b
  · subst h; simp
  · have:wI a≠wI b:=fun e=>h (Jm e)
    simp [h,this]

/-! ### How many bits are set -/
theorem zp {p q:Nat→Bool}:∀ (l:List Nat),(∀ i,p i=true→q i=true)→(∃ j∈l,q j=true∧p j=false)→l.countP p<l.countP q
  | [],_,h=>by obtain ⟨j,hj,_⟩:=h; cases hj
  | x::l,h,hx=>by
    have le:l.countP p≤l.countP q:=List.countP_mono_left (fun i _=>h i)
    rw [List.countP_cons,List.countP_cons]
    obtain ⟨j,hj,h1,h2⟩:=hx
    rcases List.mem_cons.1 hj with rfl | hj
    · rw [h1,h2]
      simp
      omega
    · have:=zp l h ⟨j,hj,h1,h2⟩
      have:(if p x=true then 1 else 0)≤(if q x=true then 1 else 0):=by
        cases hp:p x with
        | false=>simp
        | true=>rw [h x hp]; simp
      omega
def pc (b:W):Nat:=(List.range 64).countP (fun i=>b.getLsbD i)
theorem Ko (b:W):pc b≤64:=by
  have:=List.countP_le_length (p:=fun i=>b.getLsbD i) (l:=List.range 64)
  rwa [List.length_range] at this
theorem Kp {a b:W} (h:∀ i,a.getLsbD i=true→b.getLsbD i=true) (hne:a≠b):pc a<pc b:=by
  refine zp _ h ?_
  by_cases hx:∃ j∈List.range 64,b.getLsbD j=true∧a.getLsbD j=false
  · exact hx
  · exfalso
    apply hne
    apply BitVec.eq_of_getLsbD_eq
    intro i hi
    cases ha:a.getLsbD i with
    | true=>exact (h i ha).symm
    | false =>
      cases hb:b.getLsbD i with
      | false=>rfl
      | true=>exact (hx ⟨i,List.mem_range.2 hi,hb,ha⟩).elim
theorem GT {a b:W} (h:a &&& b≠a):pc (a &&& b)<pc a:=Kp (fun i hi=>by rw [BitVec.getLsbD_and] at hi; simp at hi; exact hi.1) h
def Az (ls:WL):Nat:=(ls.map pc).sum
theorem GU (ls:WL):Az ls≤64 * ls.length:=rm pc 64 ls (fun x _=>Ko x)
/-- One set met with another. -/
theorem Js (n:Nat) (hn:100≤n) (oA:List (Option (List Int))) (oB:Nat) (oC:List Int) (o b:WL) (hl:o.length=b.length) (h17:b.length≤17) :
    T (gW n oA oB oC (sW o) (sW b)) (fun y=>∃ b':WL,y.2=sW b'∧b'.length=b.length∧(∀ q,bw b' q=(bw b q&&bw o q))∧((y.1=false∧b'=b)∨(y.1=true∧Az b'<Az b))):=by
  unfold gW
  refine T.bind (P:=fun t=>∃ b':WL,t.1=sW b'∧b'.length=b.length∧(∀ q,bw b' q=(bw b q&&bw o q))∧((t.2=false∧b'=b)∨(t.2=true∧Az b'<Az b))) ?_ (fun t ht=>T.ret ht)
  refine T.loop b.length (fun i s=>∃ (b':WL) (ch:Bool),s=(sW b',ch,(i:Int))∧b'.length=b.length∧(∀ k,(hk:k<b'.length)→(hk2:k<b.length)→(hk3:k<o.length)→b'[k]=if k<i then b[k] &&& o[k] else b[k])∧((ch=false∧b'=b)∨(ch=true∧Az b'<Az b))) _ (fun i s hi hs=>?_) ⟨b,false,rfl,rfl,fun k _ _ _=>by rw [if_neg (by omega)],.inl ⟨rfl,rfl⟩⟩ (by omega)
  obtain ⟨b',ch,rfl,h1,h2,h3⟩:=hs
  unfold eL
  refine T.ite (fun h=>?_) (fun h=>?_)
  · have h:=of_decide_eq_true h
    have h:(i:Int)<((sW o).length:Int):=h
    rw [Ao] at h
    have hi':i<b.length:=by omega
    have hx:ae .i64 (i:Int) 1=((i + 1:Nat):Int):=bM i (by omega)
    have hb2:=h2 i (by omega) hi' (by omega)
    rw [if_neg (by omega)] at hb2
    have nxt:∀ ch2:Bool,((ch2=false∧ch=false∧b[i] &&& o[i]'(by omega)=b[i])∨(ch2=true∧(ch=true∨b[i] &&& o[i]'(by omega)≠b[i])))→T (some (.inl ((sW b').set ((i:Int)).toNat (gd .u64 (wI (b'[i]'(by omega))) (wI (o[i]'(by omega)))),ch2,ae .i64 (i:Int) 1):(List Int×Bool×Int)⊕(List Int×Bool))) (Rd (fun s'=>i<b.length∧∃ (b':WL) (ch:Bool),s'=(sW b',ch,((i + 1:Nat):Int))∧b'.length=b.length∧(∀ k,(hk:k<b'.length)→(hk2:k<b.length)→(hk3:k<o.length)→b'[k]=if k<i + 1 then b[k] &&& o[k] else b[k])∧((ch=false∧b'=b)∨(ch=true∧Az b'<Az b))) (fun t=>∃ b':WL,t.1=sW b'∧b'.length=b.length∧(∀ q,bw b' q=(bw b q&&bw o q))∧((t.2=false∧b'=b)∨(t.2=true∧Az b'<Az b)))):=fun ch2 hc2=>by
      refine T.next ⟨hi',b'.set i (b[i] &&& o[i]),ch2,?_,by rw [List.length_set]; exact h1,fun k hk hk2 hk3=>?_,?_⟩
      · rw [hx,Int.toNat_natCast,GF,GR,hb2]
      · rw [List.getElem_set]
        split
        · rename_i e
          subst e
          rw [if_pos (by omega)]
        · rename_i e
          rw [h2 k (by rw [List.length_set] at hk; exact hk) hk2 hk3]
          by_cases e2:k<i
          · rw [if_pos e2,if_pos (by omega)]
          · rw [if_neg e2,if_neg (by omega)]
      · have hs:=nK pc b' i (by omega) (b[i] &&& o[i]'(by omega))
        rw [hb2] at hs
        rcases hc2 with ⟨rfl,rfl,e⟩ | ⟨rfl,e⟩
        · rcases h3 with ⟨_,rfl⟩ | ⟨h3,_⟩
          · exact .inl ⟨rfl,by rw [e]; exact List.set_getElem_self (by omega)⟩
          · cases h3
        · refine .inr ⟨rfl,?_⟩
          have hle:pc (b[i] &&& o[i]'(by omega))≤pc b[i]:=by
            by_cases e3:b[i] &&& o[i]'(by omega)=b[i]
            · rw [e3]; exact Nat.le_refl _
            · exact Nat.le_of_lt (GT e3)
          unfold Az
          unfold Az at h3
          rcases e with e | e
          · subst e
            rcases h3 with ⟨h3,_⟩ | ⟨_,h3⟩
            · cases h3
            · omega
          · have:=GT e
            rcases h3 with ⟨_,rfl⟩ | ⟨_,h3⟩ <;> omega
    refine T.eqb (xw (by omega)) (T.ite (fun hc=>T.eqb (xw (by omega)) (nxt true (.inr ⟨rfl,.inl hc⟩))) (fun hc=>T.eqb (xw (by omega)) (nxt _ ?_)))
    have hc:ch=false:=hc
    show (((gd .u64 (wI (b'[i]'(by omega))) (wI (o[i]'(by omega)))) != wI (b'[i]'(by omega)))=false∧_)∨(((gd .u64 (wI (b'[i]'(by omega))) (wI (o[i]'(by omega)))) != wI (b'[i]'(by omega)))=true∧_)
    rw [GF,Oi,hb2]
    by_cases e:b[i] &&& o[i]'(by omega)=b[i]
    · exact .inl ⟨decide_eq_false (fun h=>h e),hc,e⟩
    · exact .inr ⟨decide_eq_true e,.inr e⟩
  · have h:=of_decide_eq_false h
    have h:¬ (i:Int)<((sW o).length:Int):=h
    rw [Ao] at h
    refine T.fin ⟨b',rfl,h1,fun q=>?_,h3⟩
    by_cases hq:q / 64<b.length
    · rw [BW (by omega:q / 64<b'.length) q rfl,BW hq q rfl,BW (by omega:q / 64<o.length) q rfl,h2 (q / 64) (by omega) hq (by omega),if_pos (by omega),BitVec.getLsbD_and]
    · unfold bw
      rw [List.getElem?_eq_none (by omega),List.getElem?_eq_none (by omega)]
      show (0#64).getLsbD _=((0#64).getLsbD _&&_)
      rw [BitVec.getLsbD_zero,Bool.false_and]

end Go.Proofs.Ytaiokpalfdbnnaa
