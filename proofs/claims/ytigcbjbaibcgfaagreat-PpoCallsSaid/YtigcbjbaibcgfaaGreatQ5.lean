/- How many there are in a word of 32 bits. Plain numbers, no program in sight. -/
import Derived.Test.YtigcbjbaibcgfaaGreatE3
import Derived.KernelRfl
namespace Go.Proofs.YtigcbjbaibcgfaaGreat
open Go A

theorem bvN (a:Nat) (h:a<18446744073709551616):(BitVec.ofInt 64 (a:Int)).toNat=a:=by
 rw [BitVec.ofInt_natCast,BitVec.toNat_ofNat]
 omega
theorem andN (a b:Nat) (ha:a<18446744073709551616) (hb:b<18446744073709551616):andW .u64 (a:Int) (b:Int)=((a &&& b:Nat):Int):=by
 unfold andW
 show IntKind.wrap .u64 (((BitVec.ofInt 64 (a:Int) &&& BitVec.ofInt 64 (b:Int)).toNat:Nat):Int)=_
 rw [BitVec.toNat_and,bvN a ha,bvN b hb]
 have:=Nat.and_le_left (n:=a) (m:=b)
 rw [wrapU (by omega) (by omega)]
theorem andNi (a b:Nat) (ha:a<9223372036854775808) (hb:b<9223372036854775808):andW .i64 (a:Int) (b:Int)=((a &&& b:Nat):Int):=by
 unfold andW
 show IntKind.wrap .i64 (((BitVec.ofInt 64 (a:Int) &&& BitVec.ofInt 64 (b:Int)).toNat:Nat):Int)=_
 rw [BitVec.toNat_and,bvN a (by omega),bvN b (by omega)]
 have:=Nat.and_le_left (n:=a) (m:=b)
 rw [wrapI (by omega) (by omega)]
theorem orN (a b:Nat) (ha:a<2 ^ 32) (hb:b<2 ^ 32):orW .u64 (a:Int) (b:Int)=((a ||| b:Nat):Int):=by
 unfold orW
 show IntKind.wrap .u64 (((BitVec.ofInt 64 (a:Int) ||| BitVec.ofInt 64 (b:Int)).toNat:Nat):Int)=_
 rw [BitVec.toNat_or,bvN a (by omega),bvN b (by omega)]
 have:a ||| b<2 ^ 32:=Nat.or_lt_two_pow ha hb
 rw [wrapU (by omega) (by omega)]
theorem shrN (a b:Nat) (hb:b≤64):shrW .u64 (a:Int) (b:Int)=((a / 2 ^ b:Nat):Int):=by
 unfold shrW
 rw [show min ((b:Int)).toNat IntKind.u64.bits=b by rw [Int.toNat_natCast]; exact Nat.min_eq_left hb]
 rw [Int.fdiv_eq_ediv_of_nonneg _ (by exact_mod_cast Nat.zero_le (2 ^ b))]
 norm_cast

/-! ### The reckoning, on numbers -/
def e1 (x:Int):Int:=addW .u64 (andW .u64 (shrW .u64 x 1) 6148914691236517205) (andW .u64 x 6148914691236517205)
def e2 (x:Int):Int:=addW .u64 (andW .u64 (shrW .u64 x 2) 3689348814741910323) (andW .u64 x 3689348814741910323)
def e3 (x:Int):Int:=andW .u64 (addW .u64 (shrW .u64 x 4) x) 1085102592571150095
def e4 (x:Int):Int:=addW .u64 x (shrW .u64 x 8)
def e5 (x:Int):Int:=addW .u64 x (shrW .u64 x 16)
def e6 (x:Int):Int:=addW .u64 x (shrW .u64 x 32)
theorem ones_ (n:Nat) (x:Int):math_bits_OnesCount64 n x=some (andW .i64 (IntKind.wrap .i64 (e6 (e5 (e4 (e3 (e2 (e1 x))))))) 127):=by kernel_rfl
def W4 (a b c d:Nat):Nat:=2 ^ 8 * (2 ^ 8 * (2 ^ 8 * d + c) + b) + a
theorem W4_eq (a b c d:Nat):W4 a b c d=a + 256 * b + 65536 * c + 16777216 * d:=by unfold W4; omega
theorem and_split (h l h' l':Nat) (hl:l<2 ^ 8) (hl':l'<2 ^ 8):(2 ^ 8 * h + l) &&& (2 ^ 8 * h' + l')=2 ^ 8 * (h &&& h') + (l &&& l'):=by
 have h3:l &&& l'<2 ^ 8:=Nat.lt_of_le_of_lt Nat.and_le_left hl
 refine Nat.eq_of_testBit_eq (fun j=>?_)
 rw [Nat.testBit_and,Nat.testBit_two_pow_mul_add _ hl,Nat.testBit_two_pow_mul_add _ hl',Nat.testBit_two_pow_mul_add _ h3]
 split
 ·rw [Nat.testBit_and]
 ·rw [Nat.testBit_and]
theorem or_split (h l h' l':Nat) (hl:l<2 ^ 8) (hl':l'<2 ^ 8):(2 ^ 8 * h + l) ||| (2 ^ 8 * h' + l')=2 ^ 8 * (h ||| h') + (l ||| l'):=by
 have h3:l ||| l'<2 ^ 8:=Nat.or_lt_two_pow hl hl'
 refine Nat.eq_of_testBit_eq (fun j=>?_)
 rw [Nat.testBit_or,Nat.testBit_two_pow_mul_add _ hl,Nat.testBit_two_pow_mul_add _ hl',Nat.testBit_two_pow_mul_add _ h3]
 split
 ·rw [Nat.testBit_or]
 ·rw [Nat.testBit_or]
theorem and4 (a b c d m M:Nat) (ha:a<256) (hb:b<256) (hc:c<256) (hd:d<256) (hm:m<256):W4 a b c d &&& (2 ^ 8 * (2 ^ 8 * (2 ^ 8 * (2 ^ 8 * M + m) + m) + m) + m)=W4 (a &&& m) (b &&& m) (c &&& m) (d &&& m):=by
 unfold W4
 rw [and_split _ _ _ _ (by omega) (by omega),and_split _ _ _ _ (by omega) (by omega),and_split _ _ _ _ (by omega) (by omega)]
 have:=and_split 0 d M m (by omega) (by omega)
 rw [Nat.zero_and,Nat.mul_zero,Nat.zero_add,Nat.zero_add] at this
 rw [this]
theorem m5:6148914691236517205=2 ^ 8 * (2 ^ 8 * (2 ^ 8 * (2 ^ 8 * 1431655765 + 85) + 85) + 85) + 85:=rfl
theorem m3:3689348814741910323=2 ^ 8 * (2 ^ 8 * (2 ^ 8 * (2 ^ 8 * 858993459 + 51) + 51) + 51) + 51:=rfl
theorem m15:1085102592571150095=2 ^ 8 * (2 ^ 8 * (2 ^ 8 * (2 ^ 8 * 252645135 + 15) + 15) + 15) + 15:=rfl
def p1 (a:Nat):Nat:=(a / 2 &&& 85) + (a &&& 85)
def p2 (a:Nat):Nat:=(a / 4 &&& 51) + (a &&& 51)
def pb (a:Nat):Nat:=p2 (p1 a) / 16 + p2 (p1 a) % 16
theorem k1:∀ a:Nat,a<256→(a &&& 85)=(a % 128 &&& 85):=by decide +kernel
theorem k2:∀ a:Nat,a<256→(a &&& 51)=(a % 64 &&& 51):=by decide +kernel
theorem k3:∀ a:Nat,a<256→(a &&& 15)=a % 16:=by decide +kernel
theorem p1_lt (a:Nat):p1 a<256:=by
 have h1:=Nat.and_le_right (n:=a / 2) (m:=85)
 have h2:=Nat.and_le_right (n:=a) (m:=85)
 unfold p1
 omega
theorem nib:∀ a:Nat,a<256→p2 (p1 a) / 16≤4∧p2 (p1 a) % 16≤4:=by decide +kernel
theorem s1 (a b c d:Nat) (ha:a<256) (hb:b<256) (hc:c<256) (hd:d<256):e1 ((W4 a b c d:Nat):Int)=((W4 (p1 a) (p1 b) (p1 c) (p1 d):Nat):Int):=by
 have hlt:W4 a b c d<4294967296:=by rw [W4_eq]; omega
 have hdiv:W4 a b c d / 2 ^ 1=W4 (a / 2 + 128 * (b % 2)) (b / 2 + 128 * (c % 2)) (c / 2 + 128 * (d % 2)) (d / 2):=by
  rw [W4_eq,W4_eq]; omega
 have r1:W4 a b c d / 2 ^ 1 &&& 6148914691236517205=W4 (a / 2 &&& 85) (b / 2 &&& 85) (c / 2 &&& 85) (d / 2 &&& 85):=by
  rw [hdiv,m5,and4 _ _ _ _ _ _ (by omega) (by omega) (by omega) (by omega) (by omega)]
  have f:∀ u t:Nat,u<128→t<2→(u + 128 * t) &&& 85=u &&& 85:=fun u t hu ht=>by
   rw [k1 (u + 128 * t) (by omega),k1 u (by omega)]
   congr 1
   omega
  rw [f _ _ (by omega) (by omega),f _ _ (by omega) (by omega),f _ _ (by omega) (by omega)]
 have r2:W4 a b c d &&& 6148914691236517205=W4 (a &&& 85) (b &&& 85) (c &&& 85) (d &&& 85):=by
  rw [m5,and4 _ _ _ _ _ _ (by omega) (by omega) (by omega) (by omega) (by omega)]
 have z:=shrN (W4 a b c d) 1 (by omega)
 rw [show ((1:Nat):Int)=1 from rfl] at z
 have a1:=andN (W4 a b c d / 2 ^ 1) 6148914691236517205 (by omega) (by omega)
 have a2:=andN (W4 a b c d) 6148914691236517205 (by omega) (by omega)
 rw [show ((6148914691236517205:Nat):Int)=6148914691236517205 from rfl] at a1 a2
 have l1:=Nat.and_le_right (n:=W4 a b c d / 2 ^ 1) (m:=6148914691236517205)
 have l2:=Nat.and_le_right (n:=W4 a b c d) (m:=6148914691236517205)
 unfold e1
 rw [z,a1,a2,addU (by omega) (by omega),r1,r2]
 unfold p1
 rw [W4_eq,W4_eq,W4_eq]
 omega
theorem s2 (a b c d:Nat) (ha:a<256) (hb:b<256) (hc:c<256) (hd:d<256):e2 ((W4 a b c d:Nat):Int)=((W4 (p2 a) (p2 b) (p2 c) (p2 d):Nat):Int):=by
 have hlt:W4 a b c d<4294967296:=by rw [W4_eq]; omega
 have hdiv:W4 a b c d / 2 ^ 2=W4 (a / 4 + 64 * (b % 4)) (b / 4 + 64 * (c % 4)) (c / 4 + 64 * (d % 4)) (d / 4):=by
  rw [W4_eq,W4_eq]; omega
 have r1:W4 a b c d / 2 ^ 2 &&& 3689348814741910323=W4 (a / 4 &&& 51) (b / 4 &&& 51) (c / 4 &&& 51) (d / 4 &&& 51):=by
  rw [hdiv,m3,and4 _ _ _ _ _ _ (by omega) (by omega) (by omega) (by omega) (by omega)]
  have f:∀ u t:Nat,u<64→t<4→(u + 64 * t) &&& 51=u &&& 51:=fun u t hu ht=>by
   rw [k2 (u + 64 * t) (by omega),k2 u (by omega)]
   congr 1
   omega
  rw [f _ _ (by omega) (by omega),f _ _ (by omega) (by omega),f _ _ (by omega) (by omega)]
 have r2:W4 a b c d &&& 3689348814741910323=W4 (a &&& 51) (b &&& 51) (c &&& 51) (d &&& 51):=by
  rw [m3,and4 _ _ _ _ _ _ (by omega) (by omega) (by omega) (by omega) (by omega)]
 have z:=shrN (W4 a b c d) 2 (by omega)
 rw [show ((2:Nat):Int)=2 from rfl] at z
 have a1:=andN (W4 a b c d / 2 ^ 2) 3689348814741910323 (by omega) (by omega)
 have a2:=andN (W4 a b c d) 3689348814741910323 (by omega) (by omega)
 rw [show ((3689348814741910323:Nat):Int)=3689348814741910323 from rfl] at a1 a2
 have l1:=Nat.and_le_right (n:=W4 a b c d / 2 ^ 2) (m:=3689348814741910323)
 have l2:=Nat.and_le_right (n:=W4 a b c d) (m:=3689348814741910323)
 unfold e2
 rw [z,a1,a2,addU (by omega) (by omega),r1,r2]
 unfold p2
 rw [W4_eq,W4_eq,W4_eq]
 omega
theorem s3 (a b c d:Nat) (ha:a / 16≤4∧a % 16≤4) (hb:b / 16≤4∧b % 16≤4) (hc:c / 16≤4∧c % 16≤4) (hd:d / 16≤4∧d % 16≤4):e3 ((W4 a b c d:Nat):Int)=((W4 (a / 16 + a % 16) (b / 16 + b % 16) (c / 16 + c % 16) (d / 16 + d % 16):Nat):Int):=by
 have hlt:W4 a b c d<4294967296:=by rw [W4_eq]; omega
 have hsum:W4 a b c d / 2 ^ 4 + W4 a b c d=W4 (a / 16 + a % 16 + 16 * (a / 16 + b % 16)) (b / 16 + b % 16 + 16 * (b / 16 + c % 16)) (c / 16 + c % 16 + 16 * (c / 16 + d % 16)) (d / 16 + d % 16 + 16 * (d / 16)):=by
  rw [W4_eq,W4_eq]; omega
 have z:=shrN (W4 a b c d) 4 (by omega)
 rw [show ((4:Nat):Int)=4 from rfl] at z
 unfold e3
 rw [z,addU (by omega) (by omega)]
 have e:((W4 a b c d / 2 ^ 4:Nat):Int) + ((W4 a b c d:Nat):Int)=((W4 a b c d / 2 ^ 4 + W4 a b c d:Nat):Int):=by omega
 rw [e]
 have a1:=andN (W4 a b c d / 2 ^ 4 + W4 a b c d) 1085102592571150095 (by omega) (by omega)
 rw [show ((1085102592571150095:Nat):Int)=1085102592571150095 from rfl] at a1
 rw [a1,hsum,m15,and4 _ _ _ _ _ _ (by omega) (by omega) (by omega) (by omega) (by omega),k3 _ (by omega),k3 _ (by omega),k3 _ (by omega),k3 _ (by omega)]
 have hm:∀ u v:Nat,u<16→(u + 16 * v) % 16=u:=fun u v h=>by omega
 rw [hm _ _ (by omega),hm _ _ (by omega),hm _ _ (by omega),hm _ _ (by omega)]
/-- The count. -/
def oc (x:Nat):Nat:=pb (x % 256) + pb (x / 256 % 256) + pb (x / 65536 % 256) + pb (x / 16777216 % 256)
theorem pb_le (a:Nat) (h:a<256):pb a≤8:=by
 have:=nib a h
 unfold pb
 omega
theorem oc_le (x:Nat):oc x≤32:=by
 have h1:=pb_le (x % 256) (by omega)
 have h2:=pb_le (x / 256 % 256) (by omega)
 have h3:=pb_le (x / 65536 % 256) (by omega)
 have h4:=pb_le (x / 16777216 % 256) (by omega)
 unfold oc
 omega
theorem W4_of (x:Nat) (h:x<2 ^ 32):x=W4 (x % 256) (x / 256 % 256) (x / 65536 % 256) (x / 16777216 % 256):=by rw [W4_eq]; omega
theorem count_ (n x:Nat) (h:x<2 ^ 32):math_bits_OnesCount64 n (x:Int)=some ((oc x:Nat):Int):=by
 have hx:=W4_of x h
 unfold oc
 generalize ha:x % 256=a at *
 generalize hb:x / 256 % 256=b at *
 generalize hc:x / 65536 % 256=c at *
 generalize hd:x / 16777216 % 256=d at *
 have ba:a<256:=by omega
 have bb:b<256:=by omega
 have bc:c<256:=by omega
 have bd:d<256:=by omega
 rw [ones_,hx,s1 a b c d ba bb bc bd,s2 _ _ _ _ (p1_lt a) (p1_lt b) (p1_lt c) (p1_lt d),s3 _ _ _ _ (nib a ba) (nib b bb) (nib c bc) (nib d bd)]
 have l1:=pb_le a ba
 have l2:=pb_le b bb
 have l3:=pb_le c bc
 have l4:=pb_le d bd
 unfold pb at l1 l2 l3 l4 ⊢
 generalize p2 (p1 a) / 16 + p2 (p1 a) % 16=A at *
 generalize p2 (p1 b) / 16 + p2 (p1 b) % 16=B at *
 generalize p2 (p1 c) / 16 + p2 (p1 c) % 16=C at *
 generalize p2 (p1 d) / 16 + p2 (p1 d) % 16=D at *
 have z4:=shrN (W4 A B C D) 8 (by omega)
 rw [show ((8:Nat):Int)=8 from rfl] at z4
 have hW:W4 A B C D=A + 256 * B + 65536 * C + 16777216 * D:=W4_eq _ _ _ _
 unfold e4
 rw [z4,addU (by omega) (by omega)]
 have q4:((W4 A B C D:Nat):Int) + ((W4 A B C D / 2 ^ 8:Nat):Int)=((W4 A B C D + W4 A B C D / 2 ^ 8:Nat):Int):=by omega
 rw [q4]
 have hX0:W4 A B C D + W4 A B C D / 2 ^ 8=(A + B) + 256 * (B + C) + 65536 * (C + D) + 16777216 * D:=by omega
 generalize W4 A B C D + W4 A B C D / 2 ^ 8=X at hX0 ⊢
 have z5:=shrN X 16 (by omega)
 rw [show ((16:Nat):Int)=16 from rfl] at z5
 unfold e5
 rw [z5,addU (by omega) (by omega)]
 have q5:((X:Nat):Int) + ((X / 2 ^ 16:Nat):Int)=((X + X / 2 ^ 16:Nat):Int):=by omega
 rw [q5]
 have hY0:X + X / 2 ^ 16=(A + B + C + D) + 256 * (B + C + D) + 65536 * (C + D) + 16777216 * D:=by omega
 generalize X + X / 2 ^ 16=Y at hY0 ⊢
 have z6:=shrN Y 32 (by omega)
 rw [show ((32:Nat):Int)=32 from rfl] at z6
 unfold e6
 rw [z6,addU (by omega) (by omega)]
 have q6:((Y:Nat):Int) + ((Y / 2 ^ 32:Nat):Int)=((Y + Y / 2 ^ 32:Nat):Int):=by omega
 rw [q6,wrapI (by omega) (by omega)]
 have:=andNi (Y + Y / 2 ^ 32) 127 (by omega) (by omega)
 rw [show ((127:Nat):Int)=127 from rfl] at this
 have hY1:Y / 2 ^ 32=0:=by omega
 rw [this,hY1,show 127=2 ^ 7 - 1 from rfl,Nat.and_two_pow_sub_one_eq_mod]
 congr 2
 have:(Y + 0) % 2 ^ 7=A + B + C + D:=by omega
 exact this

/-! ### One more -/
theorem pb_put:∀ j:Nat,j<8→∀ a:Nat,a<256→a.testBit j=false→pb (a ||| 2 ^ j)=pb a + 1:=by decide +kernel
theorem or4 (a b c d a' b' c' d':Nat) (ha:a<256) (hb:b<256) (hc:c<256) (ha':a'<256) (hb':b'<256) (hc':c'<256):W4 a b c d ||| W4 a' b' c' d'=W4 (a ||| a') (b ||| b') (c ||| c') (d ||| d'):=by
 unfold W4
 rw [or_split _ _ _ _ (by omega) (by omega),or_split _ _ _ _ (by omega) (by omega),or_split _ _ _ _ (by omega) (by omega)]
theorem bit4 (a b c d j:Nat) (ha:a<256) (hb:b<256) (hc:c<256):(W4 a b c d).testBit j=if j<8 then a.testBit j else if j - 8<8 then b.testBit (j - 8) else if j - 8 - 8<8 then c.testBit (j - 8 - 8) else d.testBit (j - 8 - 8 - 8):=by
 unfold W4
 rw [Nat.testBit_two_pow_mul_add _ (by omega),Nat.testBit_two_pow_mul_add _ (by omega),Nat.testBit_two_pow_mul_add _ (by omega)]
theorem ocW (a b c d:Nat) (ha:a<256) (hb:b<256) (hc:c<256) (hd:d<256):oc (W4 a b c d)=pb a + pb b + pb c + pb d:=by
 have h:=W4_eq a b c d
 unfold oc
 rw [show W4 a b c d % 256=a by omega,show W4 a b c d / 256 % 256=b by omega,show W4 a b c d / 65536 % 256=c by omega,show W4 a b c d / 16777216 % 256=d by omega]
theorem put_lt (x j:Nat) (h:x<2 ^ 32) (hj:j<32):x ||| 2 ^ j<2 ^ 32:=Nat.or_lt_two_pow h (Nat.pow_lt_pow_right (by omega) hj)
theorem oc_put (x j:Nat) (h:x<2 ^ 32) (hj:j<32) (hb:x.testBit j=false):oc (x ||| 2 ^ j)=oc x + 1:=by
 have hx:=W4_of x h
 generalize ha:x % 256=a at *
 generalize hbb:x / 256 % 256=b at *
 generalize hc:x / 65536 % 256=c at *
 generalize hd:x / 16777216 % 256=d at *
 have ba:a<256:=by omega
 have b_b:b<256:=by omega
 have bc:c<256:=by omega
 have bd:d<256:=by omega
 rw [hx] at hb ⊢
 rw [bit4 a b c d j ba b_b bc] at hb
 have or8:∀ u t:Nat,u<256→t<8→u ||| 2 ^ t<256:=fun u t hu ht=>Nat.or_lt_two_pow (n:=8) hu (Nat.pow_lt_pow_right (by omega) ht)
 have p8:∀ t:Nat,t<8→2 ^ t<256:=fun t ht=>Nat.pow_lt_pow_right (n:=8) (by omega) ht
 by_cases c1:j<8
 ·rw [if_pos c1] at hb
  have e:2 ^ j=W4 (2 ^ j) 0 0 0:=by rw [W4_eq]; omega
  have h8:=p8 j c1
  rw [e,or4 _ _ _ _ _ _ _ _ ba b_b bc h8 (by omega) (by omega),Nat.or_zero,Nat.or_zero,Nat.or_zero,ocW _ _ _ _ (or8 a j ba c1) b_b bc bd,ocW _ _ _ _ ba b_b bc bd,pb_put j c1 a ba hb]
  omega
 rw [if_neg c1] at hb
 by_cases c2:j - 8<8
 ·rw [if_pos c2] at hb
  have e:2 ^ j=W4 0 (2 ^ (j - 8)) 0 0:=by
   rw [W4_eq,show j=8 + (j - 8) by omega,Nat.pow_add,show 8 + (j - 8) - 8=j - 8 by omega]
   omega
  have h8:=p8 (j - 8) c2
  rw [e,or4 _ _ _ _ _ _ _ _ ba b_b bc (by omega) h8 (by omega),Nat.or_zero,Nat.or_zero,Nat.or_zero,ocW _ _ _ _ ba (or8 b (j - 8) b_b c2) bc bd,ocW _ _ _ _ ba b_b bc bd,pb_put (j - 8) c2 b b_b hb]
  omega
 rw [if_neg c2] at hb
 by_cases c3:j - 8 - 8<8
 ·rw [if_pos c3] at hb
  have e:2 ^ j=W4 0 0 (2 ^ (j - 8 - 8)) 0:=by
   rw [W4_eq,show j=16 + (j - 16) by omega,Nat.pow_add,show 16 + (j - 16) - 8 - 8=j - 16 by omega]
   omega
  have h8:=p8 (j - 8 - 8) c3
  rw [e,or4 _ _ _ _ _ _ _ _ ba b_b bc (by omega) (by omega) h8,Nat.or_zero,Nat.or_zero,Nat.or_zero,ocW _ _ _ _ ba b_b (or8 c (j - 8 - 8) bc c3) bd,ocW _ _ _ _ ba b_b bc bd,pb_put (j - 8 - 8) c3 c bc hb]
  omega
 rw [if_neg c3] at hb
 have c4:j - 8 - 8 - 8<8:=by omega
 have e:2 ^ j=W4 0 0 0 (2 ^ (j - 8 - 8 - 8)):=by
  rw [W4_eq,show j=24 + (j - 24) by omega,Nat.pow_add,show 24 + (j - 24) - 8 - 8 - 8=j - 24 by omega]
  omega
 have h8:=p8 (j - 8 - 8 - 8) c4
 rw [e,or4 _ _ _ _ _ _ _ _ ba b_b bc (by omega) (by omega) (by omega),Nat.or_zero,Nat.or_zero,Nat.or_zero,ocW _ _ _ _ ba b_b bc (or8 d (j - 8 - 8 - 8) bd c4),ocW _ _ _ _ ba b_b bc bd,pb_put (j - 8 - 8 - 8) c4 d bd hb]
 omega
end Go.Proofs.YtigcbjbaibcgfaaGreat
