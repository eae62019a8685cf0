/- Sorting uint64s: the pivot, the patterns. Plain law. -/
import Derived.Test.YtcckeabholabcaaS2
import Derived.KernelRfl
namespace Go.Proofs.Ytcckeabholabcaa
open Go A
open Go.Sort (ltInt swp PermIn SortedIn Below)
namespace U

theorem o2 {n a b:Nat} {d:Array Int} (s:Int) (ha:a<d.size) (hb:b<d.size):∃ (x y:Nat) (s':Int),bE n a b d.toList s=some ((x:Int),(y:Int),s')∧(x=a∧y=b∨x=b∧y=a):=by
  unfold bE
  rw [gA hb,gA ha]
  simp only [Option.bind_some,fx]
  cases ltInt d[b]! d[a]! with
  | true=>exact ⟨b,a,_,rfl,.inr ⟨rfl,rfl⟩⟩
  | false=>exact ⟨a,b,_,rfl,.inl ⟨rfl,rfl⟩⟩
theorem Ke {n a b c:Nat} {d:Array Int} (s:Int) (ha:a<d.size) (hb:b<d.size) (hc:c<d.size):∃ (x:Nat) (s':Int),bF n a b c d.toList s=some ((x:Int),s')∧(x=a∨x=b∨x=c):=by
  unfold bF
  obtain ⟨x1,y1,s1,e1,h1⟩:=o2 (n:=n) s ha hb
  rw [e1,Option.bind_some]
  dsimp only
  obtain ⟨x2,y2,s2,e2,h2⟩:=o2 (n:=n) (a:=y1) (b:=c) (d:=d) s1 (by omega) hc
  rw [e2,Option.bind_some]
  dsimp only
  obtain ⟨x3,y3,s3,e3,h3⟩:=o2 (n:=n) (a:=x1) (b:=x2) (d:=d) s2 (by omega) (by omega)
  rw [e3,Option.bind_some]
  exact ⟨y3,s3,rfl,by omega⟩
theorem Kf {n a:Nat} {d:Array Int} (s:Int) (h1:1≤a) (ha:a + 1<d.size) (hs:d.size<100000):∃ (x:Nat) (s':Int),a_ n a d.toList s=some ((x:Int),s')∧a≤x + 1∧x≤a + 1:=by
  unfold a_
  rw [lU (by omega) h1,add1 (by omega)]
  obtain ⟨x,s',e,h⟩:=Ke (n:=n) (a:=a - 1) (b:=a) (c:=a + 1) (d:=d) s (by omega) (by omega) (by omega)
  rw [e,Option.bind_some]
  exact ⟨x,s',rfl,by omega,by omega⟩
theorem A1 {l k:Nat} (h:l<100000) (hk:k<10):cp .i64 (fC .i64 (l:Int) 4) (k:Int)=((l / 4 * k:Nat):Int):=by
  have e:Int.tdiv (l:Int) 4=((l / 4:Nat):Int):=rfl
  have h2:l / 4 * k≤l / 4 * 10:=Nat.mul_le_mul_left _ (by omega)
  unfold fC cp
  rw [e,yc (a:=((l / 4:Nat):Int)) (by omega) (by omega)]
  have e2:((l / 4:Nat):Int) * (k:Int)=((l / 4 * k:Nat):Int):=(Int.natCast_mul _ _).symm
  rw [e2,yc (by omega) (by omega)]
theorem zM {n a b:Nat} {d:Array Int} (hab:a<b) (hb:b≤d.size) (hs:d.size<100000):∃ (p:Nat) (h s:Int),bC n a b d.toList=some ((p:Int),h,s)∧a≤p∧p<b:=by
  have q1:cp .i64 (fC .i64 ((b - a:Nat):Int) 4) 1=(((b - a) / 4 * 1:Nat):Int):=A1 (k:=1) (by omega) (by omega)
  have q2:cp .i64 (fC .i64 ((b - a:Nat):Int) 4) 2=(((b - a) / 4 * 2:Nat):Int):=A1 (k:=2) (by omega) (by omega)
  have q3:cp .i64 (fC .i64 ((b - a:Nat):Int) 4) 3=(((b - a) / 4 * 3:Nat):Int):=A1 (k:=3) (by omega) (by omega)
  have tail:∀ (x:Nat) (s:Int),a≤x→x<b→∃ (p:Nat) (h s':Int),(if (s==0)=true then some ((x:Int),(1:Int),s) else if (s==12)=true then some ((x:Int),(2:Int),s) else some ((x:Int),(0:Int),s))=some ((p:Int),h,s')∧a≤p∧p<b:=by
    intro x s h1 h2
    split
    · exact ⟨x,_,_,rfl,h1,h2⟩
    · split
      · exact ⟨x,_,_,rfl,h1,h2⟩
      · exact ⟨x,_,_,rfl,h1,h2⟩
  unfold bC
  rw [mc (by omega) (by omega),q1,q2,q3,addN (b:=(b - a) / 4 * 1) (by omega) (by omega),addN (b:=(b - a) / 4 * 2) (by omega) (by omega),addN (b:=(b - a) / 4 * 3) (by omega) (by omega)]
  by_cases h8:8≤b - a
  · rw [if_pos (c:=decide (((b - a:Nat):Int)≥8)=true) (by simp; omega)]
    by_cases h50:50≤b - a
    · rw [if_pos (c:=decide (((b - a:Nat):Int)≥50)=true) (by simp; omega)]
      obtain ⟨x1,s1,e1,f1,g1⟩:=Kf (n:=n) (a:=a + (b - a) / 4 * 1) (d:=d) 0 (by omega) (by omega) hs
      obtain ⟨x2,s2,e2,f2,g2⟩:=Kf (n:=n) (a:=a + (b - a) / 4 * 2) (d:=d) s1 (by omega) (by omega) hs
      obtain ⟨x3,s3,e3,f3,g3⟩:=Kf (n:=n) (a:=a + (b - a) / 4 * 3) (d:=d) s2 (by omega) (by omega) hs
      obtain ⟨x4,s4,e4,f4⟩:=Ke (n:=n) (a:=x1) (b:=x2) (c:=x3) (d:=d) s3 (by omega) (by omega) (by omega)
      rw [e1,Option.bind_some]
      dsimp only
      rw [e2,Option.bind_some]
      dsimp only
      rw [e3,Option.bind_some]
      dsimp only
      rw [e4,Option.bind_some]
      exact tail x4 s4 (by omega) (by omega)
    · rw [if_neg (c:=decide (((b - a:Nat):Int)≥50)=true) (by simp; omega)]
      obtain ⟨x4,s4,e4,f4⟩:=Ke (n:=n) (a:=a + (b - a) / 4 * 1) (b:=a + (b - a) / 4 * 2) (c:=a + (b - a) / 4 * 3) (d:=d) 0 (by omega) (by omega) (by omega)
      rw [e4,Option.bind_some]
      exact tail x4 s4 (by omega) (by omega)
  · rw [if_neg (c:=decide (((b - a:Nat):Int)≥8)=true) (by simp; omega)]
    exact ⟨_,_,_,rfl,by omega,by omega⟩

/-! ### The patterns -/
theorem G1 {r m:Int} (h0:0≤m) (h1:m<9223372036854775808):0≤ch .u64 r m∧ch .u64 r m≤m:=by
  unfold ch
  have e:((BitVec.ofInt IntKind.u64.bits r &&& BitVec.ofInt IntKind.u64.bits m).toNat:Int)≤m:=by
    rw [BitVec.toNat_and]
    have h2:(BitVec.ofInt IntKind.u64.bits r).toNat &&& (BitVec.ofInt IntKind.u64.bits m).toNat≤(BitVec.ofInt IntKind.u64.bits m).toNat:=Nat.and_le_right
    have h3:((BitVec.ofInt IntKind.u64.bits m).toNat:Int)=m:=by
      rw [BitVec.toNat_ofInt]
      show (((m % ((2 ^ 64:Nat):Int)).toNat:Nat):Int)=m
      omega
    omega
  rw [FH (by omega) (by omega)]
  exact ⟨by omega,e⟩
def KJ (l:Nat):Bool:=match ca 0 (l:Int) with
  | some y=>decide (1≤y)&&decide (y≤2 * (l:Int))
  | none=>false
def KL (l:Nat):Bool:=match du 0 (IntKind.wrap .u64 (l:Int)) with
  | some y=>decide (0≤y)&&decide (y≤64)
  | none=>false
set_option maxRecDepth 100000 in
theorem G2:(List.range 1001).all (fun l=>decide (l<8)||KJ l)=true:=by kernel_rfl
set_option maxRecDepth 100000 in
theorem G3:(List.range 1001).all KL=true:=by kernel_rfl
theorem HY {n l:Nat} (h1:8≤l) (h2:l≤1000):∃ y:Int,ca n (l:Int)=some y∧1≤y∧y≤2 * (l:Int):=by
  have h:=List.all_eq_true.1 G2 l (List.mem_range.2 (by omega))
  have e:ca n (l:Int)=ca 0 (l:Int):=rfl
  rw [Bool.or_eq_true] at h
  rcases h with h | h
  · simp at h
    omega
  · unfold KJ at h
    rw [e]
    cases hy:ca 0 (l:Int) with
    | none=>rw [hy] at h; cases h
    | some y =>
      rw [hy] at h
      simp only [Bool.and_eq_true,decide_eq_true_eq] at h
      exact ⟨y,rfl,h.1,h.2⟩
theorem HZ {n l:Nat} (h2:l≤1000):∃ y:Nat,du n (IntKind.wrap .u64 (l:Int))=some (y:Int)∧y≤64:=by
  have h:=List.all_eq_true.1 G3 l (List.mem_range.2 (by omega))
  have e:du n (IntKind.wrap .u64 (l:Int))=du 0 (IntKind.wrap .u64 (l:Int)):=rfl
  unfold KL at h
  rw [e]
  cases hy:du 0 (IntKind.wrap .u64 (l:Int)) with
  | none=>rw [hy] at h; cases h
  | some y =>
    rw [hy] at h
    simp only [Bool.and_eq_true,decide_eq_true_eq] at h
    exact ⟨y.toNat,by rw [Int.toNat_of_nonneg h.1],by omega⟩
theorem CN {n a b i:Nat} {y r:Int} {d:Array Int} (hab:a + 8≤b) (hb:b≤d.size) (hs:d.size≤1000) (hy1:1≤y) (hy2:y≤2 * ((b - a:Nat):Int)) (hi:i≤a + (b - a) / 4 * 2 + 1) :
    ∃ (o:Nat) (r':Int),ay n a b y (d.toList,r,(i:Int))=some (.inl ((swp d i o).toList,r',((i + 1:Nat):Int)))∧a≤o∧o<b:=by
  have q2:cp .i64 (fC .i64 ((b - a:Nat):Int) 4) 2=(((b - a) / 4 * 2:Nat):Int):=A1 (k:=2) (by omega) (by omega)
  unfold ay eP
  dsimp only
  rw [mc (a:=b) (b:=a) (by omega) (by omega),q2,addN (b:=(b - a) / 4 * 2) (by omega) (by omega),add1 (a:=a + (b - a) / 4 * 2) (by omega),if_pos (c:=decide ((i:Int)≤((a + (b - a) / 4 * 2 + 1:Nat):Int))=true) (by simp; omega),Option.bind_some]
  dsimp only
  rw [Ip (a:=y) (b:=1) (by omega) (by omega)]
  generalize hr:(fD .u64 (fD .u64 (fD .u64 r (jh .u64 r 13)) (bY .u64 (fD .u64 r (jh .u64 r 13)) 7)) (jh .u64 (fD .u64 (fD .u64 r (jh .u64 r 13)) (bY .u64 (fD .u64 r (jh .u64 r 13)) 7)) 17))=r'
  obtain ⟨k1,k2⟩:=G1 (r:=r') (m:=y - 1) (by omega) (by omega)
  rw [yc (a:=ch .u64 r' (y - 1)) (by omega) (by omega)]
  obtain ⟨z,hz⟩:∃ z:Nat,ch .u64 r' (y - 1)=(z:Int):=⟨(ch .u64 r' (y - 1)).toNat,by omega⟩
  rw [hz]
  rw [hz] at k2
  by_cases h:b - a≤z
  · rw [if_pos (c:=decide ((z:Int)≥((b - a:Nat):Int))=true) (by simp; omega),mc (a:=z) (b:=b - a) (by omega) (by omega),addN (b:=z - (b - a)) (by omega) (by omega),gA (by omega),Option.bind_some,gA (by omega),Option.bind_some,gS (by omega),Option.bind_some,Int.toNat_natCast,Int.toNat_natCast,sw,add1 (by omega)]
    exact ⟨_,_,rfl,by omega,by omega⟩
  · rw [if_neg (c:=decide ((z:Int)≥((b - a:Nat):Int))=true) (by simp; omega),addN (b:=z) (by omega) (by omega),gA (by omega),Option.bind_some,gA (by omega),Option.bind_some,gS (by omega),Option.bind_some,Int.toNat_natCast,Int.toNat_natCast,sw,add1 (by omega)]
    exact ⟨_,_,rfl,by omega,by omega⟩
theorem zN (n a b:Nat) (y:Int):∀ (k m i:Nat) (r:Int) (d:Array Int),a + 8≤b→b≤d.size→d.size≤1000→1≤y→y≤2 * ((b - a:Nat):Int)→a≤i→i + k=a + (b - a) / 4 * 2 + 2→k<m→∃ R:Array Int,iter (fun s=>ay n a b y s) m (d.toList,r,(i:Int))=some R.toList∧PermIn a b d R
  | k,0,_,_,_,_,_,_,_,_,_,_,h=>by omega
  | 0,m + 1,i,r,d,hab,hb,hs,hy1,hy2,ha,hk,_=>by
    have q2:cp .i64 (fC .i64 ((b - a:Nat):Int) 4) 2=(((b - a) / 4 * 2:Nat):Int):=A1 (k:=2) (by omega) (by omega)
    have st:ay n a b y (d.toList,r,(i:Int))=some (.inr d.toList):=by
      unfold ay
      dsimp only
      rw [mc (a:=b) (b:=a) (by omega) (by omega),q2,addN (b:=(b - a) / 4 * 2) (by omega) (by omega),add1 (a:=a + (b - a) / 4 * 2) (by omega),if_neg (c:=decide ((i:Int)≤((a + (b - a) / 4 * 2 + 1:Nat):Int))=true) (by simp; omega)]
    rw [aZ,st]
    exact ⟨d,rfl,Go.Sort.permIn_refl _ _ _⟩
  | k + 1,m + 1,i,r,d,hab,hb,hs,hy1,hy2,ha,hk,hm=>by
    obtain ⟨o,r',e,o1,o2⟩:=CN (n:=n) (r:=r) (i:=i) hab hb hs hy1 hy2 (by omega)
    rw [aZ,e]
    obtain ⟨R,h1,h2⟩:=zN n a b y k m (i + 1) r' (swp d i o) hab (by rw [kR]; exact hb) (by rw [kR]; exact hs) hy1 hy2 (by omega) (by omega) (by omega)
    exact ⟨R,h1,Go.Sort.permIn_trans _ _ _ _ _ (Go.Sort.swp_permIn d a b i o ha (by omega) o1 o2 hb) h2⟩
theorem G4 {n a b:Nat} {d:Array Int} (hab:a≤b) (hb:b≤d.size) (hs:d.size≤1000) (hn:5<n):∃ R:Array Int,bT n a b d.toList=some R.toList∧PermIn a b d R:=by
  have q2:cp .i64 (fC .i64 ((b - a:Nat):Int) 4) 2=(((b - a) / 4 * 2:Nat):Int):=A1 (k:=2) (by omega) (by omega)
  unfold bT
  rw [mc (by omega) hab]
  by_cases h:8≤b - a
  · obtain ⟨y,e,y1,y2⟩:=HY (n:=n) h (by omega)
    rw [if_pos (c:=decide (((b - a:Nat):Int)≥8)=true) (by simp; omega),e,Option.bind_some,q2,addN (b:=(b - a) / 4 * 2) (by omega) (by omega),lU (by omega) (by omega)]
    obtain ⟨R,h1,h2⟩:=zN n a b y 3 n (a + (b - a) / 4 * 2 - 1) (IntKind.wrap .u64 ((b - a:Nat):Int)) d (by omega) hb hs y1 y2 (by omega) (by omega) (by omega)
    rw [h1]
    exact ⟨R,rfl,h2⟩
  · rw [if_neg (c:=decide (((b - a:Nat):Int)≥8)=true) (by simp; omega)]
    exact ⟨d,rfl,Go.Sort.permIn_refl _ _ _⟩
end U
end Go.Proofs.Ytcckeabholabcaa
