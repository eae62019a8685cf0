/- Atomic operations: both ways to reckon them agree -/
import Derived.Test.YtnmmknnnggcijaaDoorR1
import Derived.KernelRfl
namespace Go.Proofs.YtnmmknnnggcijaaDoor
open Go A

def U (x:Int):Prop:=0≤x∧x<18446744073709551616
/-- The lower half, with its sign. -/
def l_ (x:Int):Int:=if x % 4294967296<2147483648 then x % 4294967296 else x % 4294967296 + 18446744069414584320
theorem l6 (x:Int):U (IntKind.wrap .u64 x):=by
  unfold U
  rw [IntKind.wrap_u64]
  omega
theorem CO {x:Int}:U (l_ x):=by
  unfold U l_
  split <;> omega
theorem CP (a:Int):a.fdiv 4294967296=a / 4294967296:=Int.fdiv_eq_ediv_of_nonneg _ (by decide)
theorem uq (n:Nat) {x:Int} (hx:U x):ap n x=some (l_ x):=by
  unfold U at hx
  have e1:wb .u64 x 32=(x % 4294967296) * 4294967296:=by
    unfold wb
    show IntKind.wrap .u64 (x * 2 ^ (min 32 64))=_
    rw [IntKind.wrap_u64,show (2:Int) ^ (min 32 64)=4294967296 by decide]
    omega
  have e2:∀ v:Int,ab .i64 v 32=v / 4294967296:=fun v=>by
    unfold ab
    show v.fdiv (2 ^ (min 32 64))=_
    rw [show (2:Int) ^ (min 32 64)=4294967296 by decide,CP]
  have e:ap n x=some (IntKind.wrap .u64 (ab .i64 (IntKind.wrap .i64 (wb .u64 x 32)) 32)):=rfl
  rw [e,e1,e2,IntKind.wrap_i64,IntKind.wrap_u64]
  congr 1
  unfold l_
  split <;> omega
theorem FT (x:Nat):x &&& 4294967295=x % 4294967296:=Nat.and_two_pow_sub_one_eq_mod x 32
theorem m3 {x:Nat} (h:x<18446744073709551616):(BitVec.ofInt 64 (x:Int)).toNat=x:=by
  rw [BitVec.ofInt_natCast,BitVec.toNat_ofNat,Nat.mod_eq_of_lt h]
theorem yU {x:Int} (hx:U x):aj .u64 x 4294967295=x % 4294967296:=by
  unfold U at hx
  obtain ⟨k,rfl⟩:∃ k:Nat,x=(k:Int):=⟨x.toNat,by omega⟩
  unfold aj
  show IntKind.wrap .u64 ((BitVec.ofInt 64 (k:Int) &&& BitVec.ofInt 64 ((4294967295:Nat):Int)).toNat:Int)=_
  rw [BitVec.toNat_and,m3 (by omega),m3 (by decide),FT,IntKind.wrap_u64]
  omega
theorem CQ {x:Int} (hx:U x):aj .u64 x 1=x % 2:=by
  unfold U at hx
  obtain ⟨k,rfl⟩:∃ k:Nat,x=(k:Int):=⟨x.toNat,by omega⟩
  unfold aj
  show IntKind.wrap .u64 ((BitVec.ofInt 64 (k:Int) &&& BitVec.ofInt 64 ((1:Nat):Int)).toNat:Int)=_
  rw [BitVec.toNat_and,m3 (by omega),m3 (by decide),Nat.and_one_is_mod,IntKind.wrap_u64]
  omega
theorem HD (k:Nat) (hk:k<18446744073709551616):k ||| 18446744069414584320=k % 4294967296 + 18446744069414584320:=by
  have e:18446744069414584320=2 ^ 32 * 4294967295:=by omega
  have h1:k=2 ^ 32 * (k / 2 ^ 32) + k % 2 ^ 32:=(Nat.div_add_mod k (2 ^ 32)).symm
  have hq:k / 2 ^ 32<2 ^ 32:=by omega
  apply Nat.eq_of_testBit_eq
  intro i
  have e2:k % 4294967296 + 18446744069414584320=2 ^ 32 * 4294967295 + k % 2 ^ 32:=by omega
  rw [e2,Nat.testBit_or,e,Nat.testBit_two_pow_mul_add _ (Nat.mod_lt _ (Nat.two_pow_pos 32)),Nat.testBit_two_pow_mul]
  by_cases hi:i<32
  · rw [if_pos hi,Nat.testBit_mod_two_pow]
    have:¬ 32≤i:=by omega
    simp [hi,this]
  · rw [if_neg hi,show (4294967295:Nat)=2 ^ 32 - 1 by decide,Nat.testBit_two_pow_sub_one]
    have h32:32≤i:=by omega
    by_cases h64:i - 32<32
    · simp [h32,h64]
    · have:k.testBit i=false:=Nat.testBit_lt_two_pow (Nat.lt_of_lt_of_le hk (by
        have:(18446744073709551616:Nat)=2 ^ 64:=by decide
        rw [this]
        exact Nat.pow_le_pow_right (by decide) (by omega)))
      simp [this,h64]
set_option maxRecDepth 100000 in
theorem EG (m:Nat):jG (m + 40) 32=some 4294967295:=by
  unfold jG
  have:iter (fun s=>j4 (m + 40) 32 s) (m + 40) (0,0)=some 4294967295:=by kernel_rfl
  rw [this]
  rfl
theorem ut (n:Nat) (hn:40≤n) {x:Int} (hx:U x):dE n x=some (l_ x):=by
  obtain ⟨m,rfl⟩:∃ m,n=m + 40:=⟨n - 40,by omega⟩
  have o32:=EG m
  have o1:jG (m + 40) 1=some 1:=rfl
  have sh:ab .u64 x 31=x / 2147483648:=by
    unfold ab
    show x.fdiv (2 ^ (min 31 64))=_
    rw [show (2:Int) ^ (min 31 64)=2147483648 by decide,Int.fdiv_eq_ediv_of_nonneg _ (by decide)]
  have hU:=hx
  unfold U at hx
  have e:dE (m + 40) x=(o_ (m + 40) x 32).bind fun y=>some (IntKind.wrap .u64 y):=rfl
  have eL:jg (m + 40) x 32=some (x % 4294967296):=by
    unfold jg
    rw [o32,Option.bind_some,yU hU]
  have eP:mb (m + 40) x 31 1=some (x / 2147483648 % 2):=by
    have:mb (m + 40) x 31 1=(jg (m + 40) (ab .u64 x 31) 1).bind fun y=>some y:=rfl
    rw [this,sh]
    unfold jg
    rw [o1,Option.bind_some,Option.bind_some,CQ (by unfold U; omega)]
  have eS:o_ (m + 40) x 32=(mb (m + 40) x 31 1).bind fun y3=>if (y3==0)=true then (jg (m + 40) x 32).bind fun y5=>some (IntKind.wrap .i64 y5) else (jG (m + 40) 32).bind fun y5=>some (IntKind.wrap .i64 (CV .u64 x (xr .u64 y5))):=rfl
  rw [e,eS,eP,Option.bind_some,eL,o32,Option.bind_some,Option.bind_some]
  by_cases h:x % 4294967296<2147483648
  · rw [if_pos (by simp; omega),Option.bind_some,IntKind.wrap_i64,IntKind.wrap_u64]
    unfold l_
    rw [if_pos h]
    congr 1
    omega
  · rw [if_neg (by simp; omega),Option.bind_some]
    have hnot:xr .u64 4294967295=18446744069414584320:=by decide +kernel
    have hor:CV .u64 x 18446744069414584320=x % 4294967296 + 18446744069414584320:=by
      obtain ⟨k,rfl⟩:∃ k:Nat,x=(k:Int):=⟨x.toNat,by omega⟩
      unfold CV
      show IntKind.wrap .u64 ((BitVec.ofInt 64 (k:Int) ||| BitVec.ofInt 64 ((18446744069414584320:Nat):Int)).toNat:Int)=_
      rw [BitVec.toNat_or,m3 (by omega),m3 (by decide),HD k (by omega),IntKind.wrap_u64]
      omega
    rw [hnot,hor,IntKind.wrap_i64,IntKind.wrap_u64]
    unfold l_
    rw [if_neg h]
    congr 1
    omega
theorem Dr (n:Nat) {x:Int} (hx:U x):ch n x=some (x % 4294967296):=by
  have:ch n x=some (aj .u64 x (xr .u64 (wb .u64 18446744073709551615 32))):=rfl
  rw [this,show xr .u64 (wb .u64 18446744073709551615 32)=4294967295 by decide +kernel,yU hx]
theorem z_ {a b:Int} (ha:U a) (hb:U b):U (kq a b):=by
  unfold kq
  split <;> assumption
theorem Aa {a b:Int} (ha:U a) (hb:U b):U (i5 a b):=by
  unfold i5
  split <;> assumption
theorem v9 (x:Int):l_ (l_ x)=l_ x:=by
  unfold l_
  split <;> split <;> omega
theorem v_ (x:Int):l_ (x % 4294967296)=l_ x:=by
  unfold l_
  rw [Int.emod_emod_of_dvd _ (Int.dvd_refl _)]
theorem rX {a b:Int} (h:a % 4294967296<b % 4294967296):l_ a<l_ b:=by
  unfold l_
  split <;> split <;> omega
theorem rY {a b:Int} (h:a % 4294967296=b % 4294967296):l_ a=l_ b:=by
  unfold l_
  rw [h]
theorem EH (a b:Int):l_ (kq (a % 4294967296) (b % 4294967296))=l_ (kq (l_ a) (l_ b)):=by
  unfold kq
  by_cases h:b % 4294967296<a % 4294967296
  · rw [if_pos h,if_pos (rX h),v_,v9]
  · rw [if_neg h]
    by_cases h2:a % 4294967296=b % 4294967296
    · rw [rY h2,if_neg (by omega),v_,v9,rY h2]
    · have:=rX (a:=a) (b:=b) (by omega)
      rw [if_neg (by omega),v_,v9]
theorem EI (a b:Int):l_ (i5 (a % 4294967296) (b % 4294967296))=l_ (i5 (l_ a) (l_ b)):=by
  unfold i5
  by_cases h:b % 4294967296>a % 4294967296
  · rw [if_pos h,if_pos (rX h),v_,v9]
  · rw [if_neg h]
    by_cases h2:a % 4294967296=b % 4294967296
    · rw [rY h2,if_neg (by omega),v_,v9,rY h2]
    · have:=rX (a:=b) (b:=a) (by omega)
      rw [if_neg (by omega),v_,v9]
/-- Both ways to reckon an atomic operation agree. -/
theorem EJ (n:Nat) (hn:50≤n) (op:Int) {w b:Int} (hw:U w) (hb:U b):∃ r,f_ n op w b=some r∧f9 n op w b=some r∧U r.1:=by
  obtain ⟨m,rfl⟩:∃ m,n=m + 2:=⟨n - 2,by omega⟩
  have sw:=uq (m + 2) hw
  have sb:=uq (m + 2) hb
  have rw_:=ut (m + 1) (by omega) hw
  have rb:=ut (m + 1) (by omega) hb
  by_cases h1:op<70
  · refine ⟨(0,2),?_,?_,by decide,by decide⟩
    · unfold f_
      rw [if_neg (by simp; omega),if_neg (by simp; omega)]
    · unfold f9
      rw [if_pos (by simpa using h1)]
  by_cases h2:87<op
  · refine ⟨(0,2),?_,?_,by decide,by decide⟩
    · unfold f_
      rw [if_pos (by simp; omega),if_neg (by simp; omega),if_pos (by simp; omega),if_neg (by simp; omega)]
    · unfold f9
      rw [if_neg (by simpa using h1),if_pos (by simpa using h2)]
  have hop:op=70∨op=71∨op=72∨op=73∨op=74∨op=75∨op=76∨op=77∨op=78∨op=79∨op=80∨op=81∨op=82∨op=83∨op=84∨op=85∨op=86∨op=87:=by omega
  have small:∀ (q:Int) (f:Int→Int→Int),q<79→70≤q→(∀ x y,U x→U y→U (f x y))→(f_ (m + 2) q w b=(ap (m + 2) w).bind fun y4=>(ap (m + 2) b).bind fun y5=>(ap (m + 2) (f y4 y5)).bind fun y10=>some (y10,0)) →
      (∀ x y,f9 (m + 1) (av .i64 q 9) x y=some (f x y,0))→∃ r,f_ (m + 2) q w b=some r∧f9 (m + 2) q w b=some r∧U r.1:=fun q f q1 q2 hf ha hr=>by
    refine ⟨(l_ (f (l_ w) (l_ b)),0),?_,?_,CO⟩
    · rw [ha,sw,sb,Option.bind_some,Option.bind_some,uq _ (hf _ _ CO CO),Option.bind_some]
    · unfold f9
      rw [if_neg (by simp; omega),if_neg (by simp; omega),if_pos (by simpa using q1),rw_,rb,Option.bind_some,Option.bind_some,hr,Option.bind_some,ut _ (by omega) (hf _ _ CO CO),Option.bind_some]
  rcases hop with rfl | rfl | rfl | rfl | rfl | rfl | rfl | rfl | rfl | rfl | rfl | rfl | rfl | rfl | rfl | rfl | rfl | rfl
  · exact small 70 (fun _ y=>y) (by decide) (by decide) (fun _ _ _ h=>h) rfl (fun _ _=>rfl)
  · exact small 71 (fun x y=>av .u64 x y) (by decide) (by decide) (fun _ _ _ _=>l6 _) rfl (fun _ _=>rfl)
  · exact small 72 (fun x y=>BH .u64 x y) (by decide) (by decide) (fun _ _ _ _=>l6 _) rfl (fun _ _=>rfl)
  · exact small 73 (fun x y=>aj .u64 x y) (by decide) (by decide) (fun _ _ _ _=>l6 _) rfl (fun _ _=>rfl)
  · exact small 74 (fun x y=>CV .u64 x y) (by decide) (by decide) (fun _ _ _ _=>l6 _) rfl (fun _ _=>rfl)
  · exact small 75 (fun x y=>IntKind.wrap .u64 (kq (IntKind.wrap .i64 x) (IntKind.wrap .i64 y))) (by decide) (by decide) (fun _ _ _ _=>l6 _) rfl (fun _ _=>rfl)
  · exact small 76 (fun x y=>IntKind.wrap .u64 (i5 (IntKind.wrap .i64 x) (IntKind.wrap .i64 y))) (by decide) (by decide) (fun _ _ _ _=>l6 _) rfl (fun _ _=>rfl)
  · refine ⟨(l_ (kq (l_ w) (l_ b)),0),?_,?_,CO⟩
    · have e:f_ (m + 2) 77 w b=(ap (m + 2) w).bind fun _=>(ap (m + 2) b).bind fun _=>(ch (m + 2) w).bind fun y7=>(ch (m + 2) b).bind fun y8=>(ap (m + 2) (kq y7 y8)).bind fun y12=>some (y12,0):=rfl
      rw [e,sw,sb,Dr _ hw,Dr _ hb]
      simp only [Option.bind_some]
      rw [uq _ (z_ (by unfold U; omega) (by unfold U; omega)),Option.bind_some,EH]
    · have e:f9 (m + 2) 77 w b=(dE (m + 1) w).bind fun y4=>(dE (m + 1) b).bind fun y5=>(dE (m + 1) (kq y4 y5)).bind fun y7=>some (y7,0):=rfl
      rw [e,rw_,rb,Option.bind_some,Option.bind_some,ut _ (by omega) (z_ CO CO),Option.bind_some]
  · refine ⟨(l_ (i5 (l_ w) (l_ b)),0),?_,?_,CO⟩
    · have e:f_ (m + 2) 78 w b=(ap (m + 2) w).bind fun _=>(ap (m + 2) b).bind fun _=>(ch (m + 2) w).bind fun y7=>(ch (m + 2) b).bind fun y8=>(ap (m + 2) (i5 y7 y8)).bind fun y12=>some (y12,0):=rfl
      rw [e,sw,sb,Dr _ hw,Dr _ hb]
      simp only [Option.bind_some]
      rw [uq _ (Aa (by unfold U; omega) (by unfold U; omega)),Option.bind_some,EI]
    · have e:f9 (m + 2) 78 w b=(dE (m + 1) w).bind fun y4=>(dE (m + 1) b).bind fun y5=>(dE (m + 1) (i5 y4 y5)).bind fun y7=>some (y7,0):=rfl
      rw [e,rw_,rb,Option.bind_some,Option.bind_some,ut _ (by omega) (Aa CO CO),Option.bind_some]
  · exact ⟨_,rfl,rfl,hb⟩
  · exact ⟨_,rfl,rfl,l6 _⟩
  · exact ⟨_,rfl,rfl,l6 _⟩
  · exact ⟨_,rfl,rfl,l6 _⟩
  · exact ⟨_,rfl,rfl,l6 _⟩
  · exact ⟨_,rfl,rfl,l6 _⟩
  · exact ⟨_,rfl,rfl,l6 _⟩
  · exact ⟨_,rfl,rfl,z_ hw hb⟩
  · exact ⟨_,rfl,rfl,Aa hw hb⟩

end Go.Proofs.YtnmmknnnggcijaaDoor
