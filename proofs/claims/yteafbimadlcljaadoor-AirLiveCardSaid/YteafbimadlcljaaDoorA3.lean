/- Sets of registers, as words -/
import Derived.Test.YteafbimadlcljaaDoorA2
namespace Go.Proofs.YteafbimadlcljaaDoor
open Go A

/-- A set of numbers below R (at most 60). -/
def sw (R:Nat) (b:W):List Int:=if R=0 then [] else [wI b]
theorem u9 {R:Nat} (h:R≠0) (b:W):sw R b=[wI b]:=if_neg h
theorem BM {R:Nat} (h:R≠0) (b:W):fN (sw R b)=true:=by rw [u9 h]; rfl
theorem words {R:Nat} (h:R≤60):bW .i64 (aH .i64 (R:Int) 63) 64=((if R=0 then 0 else 1:Nat):Int):=by
  rw [CQ (by omega) (by omega)]
  unfold bW
  rw [show ((R:Int) + 63).tdiv 64=(((R + 63) / 64:Nat):Int) by
    rw [Int.tdiv_eq_ediv_of_nonneg (by omega)]
    omega]
  split
  · subst_vars
    rfl
  · rw [show (R + 63) / 64=1 by omega]
    rfl
theorem BN {r:Nat} (h:r<60):bW .i64 (r:Int) 64=0∧gg .i64 (r:Int) 64=(r:Int):=by
  unfold bW gg
  rw [Int.tdiv_eq_ediv_of_nonneg (by omega),Int.tmod_eq_emod_of_nonneg (by omega),show ((r:Int) / 64)=0 by omega,show ((r:Int) % 64)=(r:Int) by omega]
  exact ⟨rfl,rfl⟩
theorem Ft {R:Nat} (h:R≤60) (n:Nat) (oA:List (Option (List Int))):mY n (R:Int) oA=some (sw R 0#64):=by
  unfold mY
  rw [words h]
  unfold sw
  split <;> rfl
theorem Dd {R:Nat} (h:R≤60) (n:Nat) (oA oB:List (Option (List Int))) (oC:List Int):jj n (R:Int) oA oB oC=some (sw R 0#64):=by
  unfold jj
  rw [words h]
  unfold sw
  split <;> rfl
theorem De {R r:Nat} (h:R≤60) (hr:r<R) (n:Nat) (oA:List (Option (List Int))) (oB:List Int) (b:W):fg n (r:Int) oA oB (sw R b)=some (sw R (b ||| BitVec.twoPow 64 r)):=by
  unfold fg
  rw [(BN (r:=r) (by omega)).1,(BN (r:=r) (by omega)).2,u9 (by omega),u9 (by omega)]
  show grd (decide ((0:Int)≤(r:Int))) (some [lD .u64 (wI b) (kh .u64 1 (r:Int))])=_
  rw [lc (by simp),AH r (by omega),Bp]
theorem Df {R r:Nat} (h:R≤60) (hr:r<R) (n:Nat) (oA oB:List (Option (List Int))) (oC:List Int) (b:W):fk n (r:Int) oA oB oC (sw R b)=some (sw R (b ||| BitVec.twoPow 64 r)):=by
  unfold fk
  rw [(BN (r:=r) (by omega)).1,(BN (r:=r) (by omega)).2,u9 (by omega),u9 (by omega)]
  show grd (decide ((0:Int)≤(r:Int))) (some [lD .u64 (wI b) (kh .u64 1 (r:Int))])=_
  rw [lc (by simp),AH r (by omega),Bp]
theorem Dh {R r:Nat} (h:R≤60) (hr:r<R) (n:Nat) (oA oB:List (Option (List Int))) (oC:List Int) (b:W):fj n (r:Int) oA oB oC (sw R b)=some (sw R (b &&& ~~~ BitVec.twoPow 64 r)):=by
  unfold fj
  rw [(BN (r:=r) (by omega)).1,(BN (r:=r) (by omega)).2,u9 (by omega),u9 (by omega)]
  show grd (decide ((0:Int)≤(r:Int))) (some [jA .u64 (wI b) (kh .u64 1 (r:Int))])=_
  rw [lc (by simp),AH r (by omega),AG]
theorem Di {R r:Nat} (h:R≤60) (hr:r<R) (n:Nat) (b:W):eY n (sw R b) (r:Int)=some (b.getLsbD r):=by
  unfold eY
  rw [(BN (r:=r) (by omega)).1,(BN (r:=r) (by omega)).2,u9 (by omega)]
  show grd (decide ((0:Int)≤(r:Int))) (some ((fc .u64 (yA .u64 (wI b) (r:Int)) 1)==1))=_
  rw [lc (by simp),C9 b r (by omega)]
theorem DU (a b:W):(wI a != wI b)=decide (a≠b):=by
  by_cases h:a=b
  · subst h; simp
  · have:wI a≠wI b:=fun e=>h (Cr e)
    simp [h,this]
/-- One set joined to another. -/
theorem Dj (R:Nat) (n:Nat) (hn:2≤n) (oA:List (Option (List Int))) (oB:Nat) (oC:List (Option (List Int))) (oD:List Int) (a b:W) :
    g6 n oA oB oC oD (sw R a) (sw R b)=some (decide (R≠0∧a ||| b≠a),sw R (a ||| b)):=by
  obtain ⟨k,rfl⟩:∃ k,n=k + 2:=⟨n - 2,by omega⟩
  by_cases h:R=0
  · subst h
    rfl
  · rw [u9 h,u9 h,u9 h,show decide (R≠0∧a ||| b≠a)=decide (a ||| b≠a) by simp [h],← DU,← Bp]
    rfl
theorem Cx (R:Nat) (n:Nat) (hn:2≤n) (oA:List (Option (List Int))) (oB:Nat) (oC:List (Option (List Int))) (oD:List Int) (a b:W) :
    b8 n oA oB oC oD (sw R b) (sw R a)=some (decide (R≠0∧a ||| b≠a),sw R (a ||| b)):=by
  obtain ⟨k,rfl⟩:∃ k,n=k + 2:=⟨n - 2,by omega⟩
  by_cases h:R=0
  · subst h
    rfl
  · rw [u9 h,u9 h,u9 h,show decide (R≠0∧a ||| b≠a)=decide (a ||| b≠a) by simp [h],← DU,← Bp]
    rfl
theorem Cy {R:Nat} (h:R≠0) (n:Nat) (hn:2≤n) (oA:List (Option (List Int))) (oB:Nat) (oC:List Int) (a b:W) :
    gC n oA oB oC (sw R b) (sw R a)=some (decide (a &&& b≠a),sw R (a &&& b)):=by
  obtain ⟨k,rfl⟩:∃ k,n=k + 2:=⟨n - 2,by omega⟩
  rw [u9 h,u9 h,u9 h,← DU,← BL]
  rfl

end Go.Proofs.YteafbimadlcljaaDoor
