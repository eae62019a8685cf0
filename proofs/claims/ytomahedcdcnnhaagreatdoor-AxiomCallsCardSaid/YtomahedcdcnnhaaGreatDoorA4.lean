/- A judgement told as the document tells it: plain facts on bytes and numbers; nothing is claimed of the program here. -/
import Derived.Test.YtomahedcdcnnhaaGreatDoorM1
import Derived.KernelRfl
namespace Go.Proofs.YtomahedcdcnnhaaGreatDoor
open Go A

theorem Lr:∀ d:Nat,d<10→(ByteArray.mk #[48,49,50,51,52,53,54,55,56,57]).extract d (d + 1)=⟨#[UInt8.ofNat (48 + d)]⟩
  | 0,_=>rfl | 1,_=>rfl | 2,_=>rfl | 3,_=>rfl | 4,_=>rfl | 5,_=>rfl | 6,_=>rfl | 7,_=>rfl | 8,_=>rfl | 9,_=>rfl
  | d + 10,h=>by omega
theorem uZ (a b:List UInt8):(⟨a.toArray⟩++⟨b.toArray⟩:ByteArray)=⟨(a++b).toArray⟩:=by
  apply ByteArray.ext
  simp
theorem B1 (a:List UInt8):(⟨a.toArray⟩:ByteArray).size=a.length:=by simp [ByteArray.size]
theorem qy:∀ k u:Nat,(wB k u).length≤k
  | 0,_=>Nat.le_refl _
  | k + 1,u=>by
    unfold wB
    split
    · simp
    · have:=qy k (u / 10)
      simp
      omega
theorem Qt (u:Nat) (h:u<18446744073709551616):fG .u64 (u:Int) 10=((u / 10:Nat):Int):=by
  unfold fG
  rw [IntKind.wrap_u64]
  have:Int.tdiv (u:Int) 10=((u / 10:Nat):Int):=rfl
  rw [this]
  omega
theorem Qu (u:Nat):cw .u64 (u:Int) 10=((u % 10:Nat):Int):=by
  unfold cw
  rfl
theorem M1 (d:Nat) (h:d<10):ac .u64 (d:Int) 1=((d + 1:Nat):Int):=by
  rw [Nh (by omega) (by omega)]
  omega
theorem SA (d:Nat) (h:d<10):(decide ((0:Int)≤(d:Int))&&decide ((d:Int)≤((d + 1:Nat):Int))&&decide (((d + 1:Nat):Int)≤((ByteArray.mk #[48,49,50,51,52,53,54,55,56,57]).size:Int)))=true:=by
  rw [Bool.and_eq_true,Bool.and_eq_true]
  refine ⟨⟨decide_eq_true (by omega),decide_eq_true (by omega)⟩,decide_eq_true ?_⟩
  rw [show (ByteArray.mk #[48,49,50,51,52,53,54,55,56,57]).size=10 from rfl]
  omega
theorem B2 (d n:Nat) (h:d<10):gf (n + 1) (d:Int)=some ⟨#[UInt8.ofNat (48 + d)]⟩:=by
  unfold gf
  rw [if_neg (by simp; omega),M1 d h]
  unfold grd
  rw [if_pos (SA d h)]
  rw [Int.toNat_natCast,Int.toNat_natCast]
  rw [Lr d h]
theorem u0 {α:Type} (m:Nat) (x:Option α) (h:m≤100):grd (decide ((m:Int)≤9223372036854775807)) x=x:=by
  unfold grd
  rw [if_pos (decide_eq_true (by omega))]
theorem IF:∀ (k u n:Nat),u<10 ^ (k + 1)→u<18446744073709551616→k + 1<n→k≤20→gf n (u:Int)=some ⟨(wB (k + 1) u).toArray⟩:=by
  intro k
  induction k with
  | zero =>
    intro u n h _ h3 _
    obtain ⟨n,rfl⟩:∃ m,n=m + 1:=⟨n - 1,by omega⟩
    have h10:u<10:=by simpa using h
    rw [B2 u n h10]
    unfold wB
    rw [if_pos h10]
  | succ k ih =>
    intro u n h h2 h3 h4
    obtain ⟨n,rfl⟩:∃ m,n=m + 2:=⟨n - 2,by omega⟩
    by_cases h10:u<10
    · rw [B2 u (n + 1) h10]
      unfold wB
      rw [if_pos h10]
    · have hq:=ih (u / 10) (n + 1) (by rw [Nat.pow_succ] at h; omega) (by omega) (by omega) (by omega)
      have hd:=B2 (u % 10) n (by omega)
      unfold gf
      rw [if_pos (decide_eq_true (by omega)),Qt u h2,Qu u,hq,hd]
      rw [Option.bind_some,Option.bind_some]
      have hl:=qy (k + 1) (u / 10)
      rw [show (⟨#[UInt8.ofNat (48 + u % 10)]⟩:ByteArray)=⟨[UInt8.ofNat (48 + u % 10)].toArray⟩ from rfl,uZ]
      simp only [B1]
      rw [u0 _ _ (by simp; omega)]
      conv=>rhs; unfold wB
      rw [if_neg h10]
theorem FJ (a:Int) (n:Nat) (hn:200≤n) (h0:-9223372036854775808≤a) (h1:a≤9223372036854775807):dZ n a=some ⟨(qY a).toArray⟩:=by
  have p20:(10:Nat) ^ 20=100000000000000000000:=by decide
  unfold dZ qY
  by_cases h:a<0
  · have e:IntKind.wrap .u64 (aJ .i64 0 a)=((a.natAbs:Nat):Int):=by
      unfold aJ
      rw [IntKind.wrap_i64,IntKind.wrap_u64]
      omega
    have hl:=qy 20 a.natAbs
    rw [if_pos (decide_eq_true h),if_pos h,e,IF 19 a.natAbs n (by omega) (by omega) (by omega) (by omega)]
    simp only [Option.bind_some]
    rw [show (ByteArray.mk #[45])=⟨[45].toArray⟩ from rfl,uZ]
    simp only [B1]
    rw [u0 _ _ (by simp; omega)]
    rfl
  · have e:IntKind.wrap .u64 a=((a.toNat:Nat):Int):=by
      rw [IntKind.wrap_u64]
      omega
    rw [if_neg (by simpa using h),if_neg h,e,IF 19 a.toNat n (by omega) (by omega) (by omega) (by omega)]
    rfl
theorem AG (a:Int):(qY a).length≤21:=by
  unfold qY
  split
  · have:=qy 20 a.natAbs
    simp
    omega
  · have:=qy 20 a.toNat
    omega
theorem M3 (n:Nat) (a b:Int) (hn:200≤n) (ha:-9223372036854775808≤a∧a≤9223372036854775807) (hb:-9223372036854775808≤b∧b≤9223372036854775807) (w:List UInt8) (hw:w.length≤5) (X:ByteArray) (hX:X=⟨w.toArray⟩) :
    (grd (decide (((X.size + (ByteArray.mk #[32]).size:Nat):Int)≤9223372036854775807)) <|
    (dZ n a).bind fun y6 =>
    grd (decide ((((X++(ByteArray.mk #[32])).size + y6.size:Nat):Int)≤9223372036854775807)) <|
    grd (decide (((((X++(ByteArray.mk #[32]))++y6).size + (ByteArray.mk #[32]).size:Nat):Int)≤9223372036854775807)) <|
    (dZ n b).bind fun y9 =>
    grd (decide ((((((X++(ByteArray.mk #[32]))++y6)++(ByteArray.mk #[32])).size + y9.size:Nat):Int)≤9223372036854775807)) <|
    some ((((X++(ByteArray.mk #[32]))++y6)++(ByteArray.mk #[32]))++y9))=some ⟨(w++32::(qY a++32::qY b)).toArray⟩:=by
  have la:=AG a
  have lb:=AG b
  subst hX
  rw [FJ a n hn ha.1 ha.2,FJ b n hn hb.1 hb.2]
  simp only [Option.bind_some]
  rw [show (ByteArray.mk #[32])=⟨[32].toArray⟩ from rfl,uZ,uZ,uZ,uZ]
  simp only [B1]
  rw [u0 _ _ (by simp; omega),u0 _ _ (by simp; omega),u0 _ _ (by simp; omega),u0 _ _ (by simp; omega)]
  congr 2
  simp
theorem M4 (n:Nat) (j:aC) (hn:200≤n) (ha:-9223372036854775808≤j.A_∧j.A_≤9223372036854775807) (hb:-9223372036854775808≤j.B∧j.B≤9223372036854775807) :
    ∃ a b,iw n j=some a∧pG n j=some b∧a.toList=b.toList:=by
  refine ⟨⟨(wD j.OK j.Why j.A_ j.B).toArray⟩,⟨(wD j.OK j.Why j.A_ j.B).toArray⟩,?_,?_,rfl⟩
  · unfold iw grd IJ
    rw [if_pos (by simp only [Bool.and_eq_true,decide_eq_true_eq]; exact ⟨ha,hb⟩)]
  · have key:=M3 n j.A_ j.B hn ha hb
    unfold pG wD
    by_cases hk:j.OK=true
    · rw [if_pos hk,if_pos hk]
    · rw [if_neg hk,if_neg hk]
      by_cases h1:1≤j.Why∧j.Why≤4
      · rw [if_pos (decide_eq_true (show j.Why≥1 from h1.1)),if_pos (decide_eq_true h1.2)]
        obtain ⟨q,hq⟩:∃ q:Nat,j.Why=(q:Int):=⟨j.Why.toNat,by omega⟩
        rw [hq]
        have:q=1∨q=2∨q=3∨q=4:=by omega
        rw [j9]
        rcases this with rfl | rfl | rfl | rfl
        · rw [List.getElem?_cons_succ,List.getElem?_cons_zero,Option.bind_some]
          rw [show wC ((1:Nat):Int)=[102,111,114,109] from rfl]
          exact key [102,111,114,109] (by decide) _ rfl
        · rw [List.getElem?_cons_succ,List.getElem?_cons_succ,List.getElem?_cons_zero,Option.bind_some]
          rw [show wC ((2:Nat):Int)=[111,114,100,101,114] from rfl]
          exact key [111,114,100,101,114] (by decide) _ rfl
        · rw [List.getElem?_cons_succ,List.getElem?_cons_succ,List.getElem?_cons_succ,List.getElem?_cons_zero,Option.bind_some]
          rw [show wC ((3:Nat):Int)=[118,97,108,117,101] from rfl]
          exact key [118,97,108,117,101] (by decide) _ rfl
        · rw [List.getElem?_cons_succ,List.getElem?_cons_succ,List.getElem?_cons_succ,List.getElem?_cons_succ,List.getElem?_cons_zero,Option.bind_some]
          rw [show wC ((4:Nat):Int)=[112,97,105,114] from rfl]
          exact key [112,97,105,114] (by decide) _ rfl
      · have ew:wC j.Why=[111,116,104,101,114]:=by
          unfold wC
          rw [if_neg (by omega),if_neg (by omega),if_neg (by omega),if_neg (by omega)]
        rw [ew]
        by_cases h2:j.Why≥1
        · rw [if_pos (decide_eq_true h2),if_neg (by simp; omega)]
          exact key [111,116,104,101,114] (by decide) _ rfl
        · rw [if_neg (by simpa using h2)]
          exact key [111,116,104,101,114] (by decide) _ rfl

end Go.Proofs.YtomahedcdcnnhaaGreatDoor
