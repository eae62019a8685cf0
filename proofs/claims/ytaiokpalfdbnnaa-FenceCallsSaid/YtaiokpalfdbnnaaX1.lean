/- Rounds, small numbers, words as sets -/
import Derived.Test.YtaiokpalfdbnnaaM1
namespace Go.Proofs.Ytaiokpalfdbnnaa
open Go A

theorem addN (a b:Nat) (h:a + b≤100000000):ae .i64 (a:Int) (b:Int)=((a + b:Nat):Int):=by
  rw [JG (by omega) (by omega)]; omega
theorem bM (a:Nat) (h:a<100000000):ae .i64 (a:Int) 1=((a + 1:Nat):Int):=addN a 1 (by omega)
theorem GE (a:Nat) (h:1≤a) (h2:a≤100000000):cn .i64 (a:Int) 1=((a - 1:Nat):Int):=by
  rw [JH (by omega) (by omega)]; omega
/-- There is an answer, and it is so. -/
def T {α:Type} (x:Option α) (P:α→Prop):Prop:=∃ r,x=some r∧P r
theorem T.ret {α:Type} {a:α} {P:α→Prop} (h:P a):T (some a) P:=⟨a,rfl,h⟩
theorem T.bind {α β:Type} {x:Option α} {f:α→Option β} {P:α→Prop} {Q:β→Prop} (h:T x P) (k:∀ r,P r→T (f r) Q):T (x.bind f) Q:=by
  obtain ⟨r,e,p⟩:=h
  rw [e]
  exact k r p
theorem T.eqb {α β:Type} {x:Option α} {f:α→Option β} {a:α} {Q:β→Prop} (h:x=some a) (k:T (f a) Q):T (x.bind f) Q:=by
  rw [h]
  exact k
theorem T.ite {α:Type} {b:Bool} {x y:Option α} {Q:α→Prop} (h1:b=true→T x Q) (h2:b=false→T y Q):T (if b=true then x else y) Q:=by
  cases b
  · exact h2 rfl
  · exact h1 rfl
theorem T.grd {α:Type} {b:Bool} {x:Option α} {Q:α→Prop} (h:b=true) (k:T x Q):T (grd b x) Q:=by
  rw [kx h]
  exact k
theorem T.imp {α:Type} {x:Option α} {P Q:α→Prop} (h:T x P) (k:∀ r,P r→Q r):T x Q:=by
  obtain ⟨r,e,p⟩:=h
  exact ⟨r,e,k r p⟩
theorem HP {α:Type} {l:List α} {i:Int} {k:Nat} (hi:i=(k:Int)) (h:k<l.length):az l i=some l[k]:=by
  rw [hi,gJ,List.getElem?_eq_getElem h]
theorem T.get {α β:Type} {l:List α} {i:Int} {f:α→Option β} {Q:β→Prop} (k:Nat) (hi:i=(k:Int)) (h:k<l.length) (g:T (f l[k]) Q):T ((az l i).bind f) Q:=T.eqb (HP hi h) g
/-- A round's end. -/
def Rd {σ τ:Type} (P:σ→Prop) (Q:τ→Prop):σ⊕τ→Prop
  | .inl s=>P s
  | .inr t=>Q t
theorem T.fin {σ τ:Type} {P:σ→Prop} {Q:τ→Prop} {t:τ} (h:Q t):T (some (.inr t:σ⊕τ)) (Rd P Q):=T.ret h
theorem T.next {σ τ:Type} {P:σ→Prop} {Q:τ→Prop} {s:σ} (h:P s):T (some (.inl s:σ⊕τ)) (Rd P Q):=T.ret h
/-- So many rounds at most; St tells what is so at the beginning of each. -/
theorem T.loopFrom {σ τ:Type} {step:σ→Option (σ⊕τ)} (N:Nat) (St:Nat→σ→Prop) (Post:τ→Prop)
    (hs:∀ i s,i≤N→St i s→T (step s) (Rd (fun s'=>i<N∧St (i + 1) s') Post)):∀ (n i:Nat) (s:σ),i≤N→St i s→N - i<n→T (iter step n s) Post
  | 0,_,_,_,_,h=>by omega
  | n + 1,i,s,hi,h0,h=>by
    rw [sI]
    obtain ⟨r,e,p⟩:=hs i s hi h0
    rw [e]
    cases r with
    | inl s'=>exact T.loopFrom N St Post hs n (i + 1) s' p.1 p.2 (by have:=p.1; omega)
    | inr t=>exact T.ret p
theorem T.loop {σ τ:Type} {step:σ→Option (σ⊕τ)} (N:Nat) (St:Nat→σ→Prop) (Post:τ→Prop)
    (hs:∀ i s,i≤N→St i s→T (step s) (Rd (fun s'=>i<N∧St (i + 1) s') Post)) {n:Nat} {s:σ} (h0:St 0 s) (hn:N<n):T (iter step n s) Post :=
  T.loopFrom N St Post hs n 0 s (Nat.zero_le _) h0 hn
/-- Rounds by a measure. -/
theorem T.down {σ τ:Type} {step:σ→Option (σ⊕τ)} (Inv:σ→Prop) (m:σ→Nat) (Post:τ→Prop)
    (hs:∀ s,Inv s→T (step s) (Rd (fun s'=>Inv s'∧m s'<m s) Post)):∀ (n:Nat) (s:σ),Inv s→m s<n→T (iter step n s) Post
  | 0,_,_,h=>by omega
  | n + 1,s,h0,h=>by
    rw [sI]
    obtain ⟨r,e,p⟩:=hs s h0
    rw [e]
    cases r with
    | inl s'=>exact T.down Inv m Post hs n s' p.1 (by have:=p.2; omega)
    | inr t=>exact T.ret p

/-! ### Words -/
abbrev W:=BitVec 64
def wI (b:W):Int:=(b.toNat:Int)
theorem An {x:Nat} (h:x<2 ^ 64):IntKind.wrap .u64 (x:Int)=(x:Int):=JI (by omega) (by omega)
theorem KI (b:W):BitVec.ofInt (IntKind.bits .u64) (wI b)=b:=by
  show BitVec.ofInt 64 ((b.toNat:Nat):Int)=b
  rw [BitVec.ofInt_natCast,BitVec.ofNat_toNat]
  simp
theorem Mq (a b:W):IH .u64 (wI a) (wI b)=wI (a ||| b):=by
  unfold IH
  rw [KI,KI]
  exact An (BitVec.isLt _)
theorem GF (a b:W):gd .u64 (wI a) (wI b)=wI (a &&& b):=by
  unfold gd
  rw [KI,KI]
  exact An (BitVec.isLt _)
theorem Kd (r:Nat) (h:r<64):Cb .u64 1 (r:Int)=wI (BitVec.twoPow 64 r):=by
  unfold Cb wI
  rw [BitVec.toNat_twoPow,Nat.mod_eq_of_lt (Nat.pow_lt_pow_right (by omega) h),Int.toNat_natCast,show min r (IntKind.bits .u64)=r from Nat.min_eq_left (by show r≤64; omega),Int.one_mul]
  have:=An (x:=2 ^ r) (Nat.pow_lt_pow_right (by omega) h)
  simpa using this
theorem Ke (b:W) (r:Nat) (h:r<64):(gd .u64 (FA .u64 (wI b) (r:Int)) 1==1)=b.getLsbD r:=by
  have e:FA .u64 (wI b) (r:Int)=wI (b >>> r):=by
    unfold FA wI
    rw [Int.toNat_natCast,show min r (IntKind.bits .u64)=r from Nat.min_eq_left (by show r≤64; omega),BitVec.toNat_ushiftRight,Nat.shiftRight_eq_div_pow,Int.fdiv_eq_ediv_of_nonneg _ (Int.le_of_lt (Int.pow_pos (by decide)))]
    rw [Int.natCast_ediv,Int.natCast_pow]
    rfl
  rw [e,show (1:Int)=wI 1#64 from rfl,GF,BitVec.and_one_eq_setWidth_ofBool_getLsbD,BitVec.getLsbD_ushiftRight,Nat.add_zero]
  cases b.getLsbD r <;> rfl
theorem Jm {a b:W} (h:wI a=wI b):a=b:=by
  unfold wI at h
  exact BitVec.eq_of_toNat_eq (by omega)

end Go.Proofs.Ytaiokpalfdbnnaa
