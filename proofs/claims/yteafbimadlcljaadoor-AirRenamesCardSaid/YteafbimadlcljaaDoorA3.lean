/- Sets of registers, as words -/
import Derived.Test.YteafbimadlcljaaDoorA2
namespace Go.Proofs.YteafbimadlcljaaDoor
open Go A

/-- A set of numbers below R (at most 60). -/
def sw (R:Nat) (b:W):List Int:=if R=0 then [] else [wI b]
theorem xe {R:Nat} (h:R≠0) (b:W):sw R b=[wI b]:=if_neg h
theorem AD {R:Nat} (h:R≠0) (b:W):gN (sw R b)=true:=by rw [xe h]; rfl
theorem words {R:Nat} (h:R≤60):cn .i64 (ac .i64 (R:Int) 63) 64=((if R=0 then 0 else 1:Nat):Int):=by
  rw [Dl (by omega) (by omega)]
  unfold cn
  rw [show ((R:Int) + 63).tdiv 64=(((R + 63) / 64:Nat):Int) by
    rw [Int.tdiv_eq_ediv_of_nonneg (by omega)]
    omega]
  split
  · subst_vars
    rfl
  · rw [show (R + 63) / 64=1 by omega]
    rfl
theorem Eu {r:Nat} (h:r<60):cn .i64 (r:Int) 64=0∧af .i64 (r:Int) 64=(r:Int):=by
  unfold cn af
  rw [Int.tdiv_eq_ediv_of_nonneg (by omega),Int.tmod_eq_emod_of_nonneg (by omega),show ((r:Int) / 64)=0 by omega,show ((r:Int) % 64)=(r:Int) by omega]
  exact ⟨rfl,rfl⟩
theorem G4 {R:Nat} (h:R≤60) (n:Nat) (oA:List (Option (List Int))):o7 n (R:Int) oA=some (sw R 0#64):=by
  unfold o7
  rw [words h]
  unfold sw
  split <;> rfl
theorem F8 {R:Nat} (h:R≤60) (n:Nat) (oA oB:List (Option (List Int))) (oC:List Int):kr n (R:Int) oA oB oC=some (sw R 0#64):=by
  unfold kr
  rw [words h]
  unfold sw
  split <;> rfl
theorem Ev {R r:Nat} (h:R≤60) (hr:r<R) (n:Nat) (oA:List (Option (List Int))) (oB:List Int) (b:W):gh n (r:Int) oA oB (sw R b)=some (sw R (b ||| BitVec.twoPow 64 r)):=by
  unfold gh
  rw [(Eu (r:=r) (by omega)).1,(Eu (r:=r) (by omega)).2,xe (by omega),xe (by omega)]
  show grd (decide ((0:Int)≤(r:Int))) (some [m3 .u64 (wI b) (lJ .u64 1 (r:Int))])=_
  rw [jF (by simp),CU r (by omega),DV]
theorem F9 {R r:Nat} (h:R≤60) (hr:r<R) (n:Nat) (oA oB:List (Option (List Int))) (oC:List Int) (b:W):gm n (r:Int) oA oB oC (sw R b)=some (sw R (b ||| BitVec.twoPow 64 r)):=by
  unfold gm
  rw [(Eu (r:=r) (by omega)).1,(Eu (r:=r) (by omega)).2,xe (by omega),xe (by omega)]
  show grd (decide ((0:Int)≤(r:Int))) (some [m3 .u64 (wI b) (lJ .u64 1 (r:Int))])=_
  rw [jF (by simp),CU r (by omega),DV]
theorem F_ {R r:Nat} (h:R≤60) (hr:r<R) (n:Nat) (oA oB:List (Option (List Int))) (oC:List Int) (b:W):gl n (r:Int) oA oB oC (sw R b)=some (sw R (b &&& ~~~ BitVec.twoPow 64 r)):=by
  unfold gl
  rw [(Eu (r:=r) (by omega)).1,(Eu (r:=r) (by omega)).2,xe (by omega),xe (by omega)]
  show grd (decide ((0:Int)≤(r:Int))) (some [kO .u64 (wI b) (lJ .u64 1 (r:Int))])=_
  rw [jF (by simp),CU r (by omega),CS]
theorem Fq {R r:Nat} (h:R≤60) (hr:r<R) (n:Nat) (b:W):fV n (sw R b) (r:Int)=some (b.getLsbD r):=by
  unfold fV
  rw [(Eu (r:=r) (by omega)).1,(Eu (r:=r) (by omega)).2,xe (by omega)]
  show grd (decide ((0:Int)≤(r:Int))) (some ((dY .u64 (AN .u64 (wI b) (r:Int)) 1)==1))=_
  rw [jF (by simp),F4 b r (by omega)]
theorem GF (a b:W):(wI a != wI b)=decide (a≠b):=by
  by_cases h:a=b
  · subst h; simp
  · have:wI a≠wI b:=fun e=>h (Fh e)
    simp [h,this]
/-- One set joined to another. -/
theorem Ga (R:Nat) (n:Nat) (hn:2≤n) (oA:List (Option (List Int))) (oB:Nat) (oC:List (Option (List Int))) (oD:List Int) (a b:W) :
    i6 n oA oB oC oD (sw R a) (sw R b)=some (decide (R≠0∧a ||| b≠a),sw R (a ||| b)):=by
  obtain ⟨k,rfl⟩:∃ k,n=k + 2:=⟨n - 2,by omega⟩
  by_cases h:R=0
  · subst h
    rfl
  · rw [xe h,xe h,xe h,show decide (R≠0∧a ||| b≠a)=decide (a ||| b≠a) by simp [h],← GF,← DV]
    rfl
theorem Fs (R:Nat) (n:Nat) (hn:2≤n) (oA:List (Option (List Int))) (oB:Nat) (oC:List (Option (List Int))) (oD:List Int) (a b:W) :
    cz n oA oB oC oD (sw R b) (sw R a)=some (decide (R≠0∧a ||| b≠a),sw R (a ||| b)):=by
  obtain ⟨k,rfl⟩:∃ k,n=k + 2:=⟨n - 2,by omega⟩
  by_cases h:R=0
  · subst h
    rfl
  · rw [xe h,xe h,xe h,show decide (R≠0∧a ||| b≠a)=decide (a ||| b≠a) by simp [h],← GF,← DV]
    rfl
theorem CW {R:Nat} (h:R≠0) (n:Nat) (hn:2≤n) (oA:List (Option (List Int))) (oB:Nat) (oC:List Int) (a b:W) :
    iC n oA oB oC (sw R b) (sw R a)=some (decide (a &&& b≠a),sw R (a &&& b)):=by
  obtain ⟨k,rfl⟩:∃ k,n=k + 2:=⟨n - 2,by omega⟩
  rw [xe h,xe h,xe h,← GF,← Et]
  rfl

end Go.Proofs.YteafbimadlcljaaDoor
