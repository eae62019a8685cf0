/- Sorting uint64s: what the library's insertion, heap, reversal compute. Plain law. -/
import Derived.Test.YtcckeabholabcaaM1
import Derived.Sort.AssemblyPlain
namespace Go.Proofs.Ytcckeabholabcaa
open Go A
open Go.Sort (ltInt swp insInner insOuter siftDown heapBuild heapPop PermIn SortedIn)
namespace U

theorem fx (n:Nat) (x y:Int):aJ n x y=some (ltInt x y):=by
  unfold aJ di ltInt
  simp
theorem gA {d:Array Int} {i:Nat} (h:i<d.size):aN d.toList (i:Int)=some d[i]! := by
  rw [jL,Array.getElem?_toList,Array.getElem?_eq_getElem h,getElem!_pos d i h]
theorem gS {d:Array Int} {i j:Nat} {x:Int} (h:j<d.size):aN (d.toList.set i x) (j:Int)=some (d.setIfInBounds i x)[j]! := by
  rw [← Array.toList_setIfInBounds]
  exact gA (by simpa using h)
theorem sw (d:Array Int) (i j:Nat):((d.toList.set i d[j]!).set j d[i]!)=(swp d i j).toList:=by
  unfold swp
  rw [Array.toList_setIfInBounds,Array.toList_setIfInBounds]
theorem add1 {a:Nat} (h:a<1000000):ae .i64 (a:Int) 1=((a + 1:Nat):Int):=by
  rw [yb (by omega) (by omega)]
  omega
theorem lU {a:Nat} (h:a<1000000) (h1:1≤a):aj .i64 (a:Int) 1=((a - 1:Nat):Int):=by
  rw [rZ (by omega) (by omega)]
  omega
theorem addN {a b:Nat} (h:a<1000000) (h2:b<1000000):ae .i64 (a:Int) (b:Int)=((a + b:Nat):Int):=by
  rw [yb (by omega) (by omega)]
  omega
theorem mc {a b:Nat} (h:a<1000000) (h2:b≤a):aj .i64 (a:Int) (b:Int)=((a - b:Nat):Int):=by
  rw [rZ (by omega) (by omega)]
  omega
theorem HT {a:Nat} (h:a<1000000):cp .i64 2 (a:Int)=((2 * a:Nat):Int):=by
  rw [Hj (by omega) (by omega)]
  omega
theorem kR (d:Array Int) (i j:Nat):(swp d i j).size=d.size:=Go.Sort.size_swp d i j

/-! ### Insertion -/
theorem Eb (n a b i:Nat):∀ (j m:Nat) (d:Array Int),j<d.size→d.size<100000→j<m→iter (fun s=>aP n a b s) m (d.toList,(i:Int),(j:Int))=some ((insInner ltInt a j d).toList,(i:Int))
  | j,0,d,_,_,h=>by omega
  | 0,m + 1,d,hj,hs,_=>by
    rw [aZ]
    unfold aP
    dsimp only
    rw [if_neg (by simp)]
    rfl
  | j + 1,m + 1,d,hj,hs,hm=>by
    rw [aZ]
    unfold aP insInner
    dsimp only
    rw [lU (by omega) (by omega),Nat.add_sub_cancel,gA hj,gA (by omega),Option.bind_some,Option.bind_some,fx,Option.bind_some,gS (by omega),Option.bind_some,Int.toNat_natCast,Int.toNat_natCast,sw]
    by_cases h1:j + 1>a
    · rw [if_pos (by simp; omega)]
      cases h2:ltInt d[j + 1]! d[j]! with
      | true =>
        rw [if_pos rfl,if_pos (by simp [h1])]
        exact Eb n a b i j m _ (by rw [kR]; omega) (by rw [kR]; omega) (by omega)
      | false =>
        rw [if_neg (by simp),if_neg (by simp)]
    · rw [if_neg (by simp; omega),if_neg (by simp [h1])]

theorem iU (a:Nat):∀ (j:Nat) (d:Array Int),(insInner ltInt a j d).size=d.size
  | 0,d=>rfl
  | j + 1,d=>by
    unfold insInner
    split
    · rw [iU a j,kR]
    · rfl
theorem BJ (n a b:Nat):∀ (m i:Nat) (d:Array Int),b≤d.size→d.size<100000→d.size<n→i<1000000→b - i<m→iter (fun s=>bi n a b s) m (d.toList,(i:Int))=some ((insOuter ltInt a b i d).toList)
  | 0,i,d,_,_,_,_,h=>by omega
  | m + 1,i,d,hb,hs,hn,hi,hm=>by
    rw [aZ]
    unfold bi
    rw [insOuter]
    dsimp only
    by_cases h:i<b
    · rw [if_pos (by simp; omega),if_pos h,Eb n a b i i n d (by omega) hs (by omega),Option.bind_some]
      dsimp only
      rw [add1 (by omega)]
      exact BJ n a b m (i + 1) _ (by rw [iU]; exact hb) (by rw [iU]; exact hs) (by rw [iU]; exact hn) (by omega) (by omega)
    · rw [if_neg (by simp; omega),if_neg h]
theorem GY {n a b:Nat} {d:Array Int} (hab:a≤b) (hb:b≤d.size) (hs:d.size<100000) (hn:d.size<n):bS n a b d.toList=some (Go.Sort.insertionSort ltInt d a b).toList:=by
  unfold bS Go.Sort.insertionSort
  rw [add1 (by omega),BJ n a b n (a + 1) d hb hs hn (by omega) (by omega)]
  rfl

/-! ### The heap -/
theorem eF (hi first:Nat) (root:Nat) (d:Array Int):(siftDown ltInt hi first root d).size=d.size:=by
  fun_induction siftDown ltInt hi first root d <;> simp_all [kR]
/-- The greater child. -/
def C1 (hi first root:Nat) (d:Array Int):Nat:=if 2 * root + 1 + 1<hi∧ltInt d[first + (2 * root + 1)]! d[first + (2 * root + 1 + 1)]! = true then 2 * root + 1 + 1 else 2 * root + 1
theorem Ec (hi first root:Nat) (d:Array Int):siftDown ltInt hi first root d=if 2 * root + 1≥hi then d else if ltInt d[first + root]! d[first + C1 hi first root d]! = false then d else siftDown ltInt hi first (C1 hi first root d) (swp d (first + root) (first + C1 hi first root d)):=by
  rw [siftDown]
  unfold C1
  by_cases h0:2 * root + 1≥hi
  · rw [dif_pos h0,if_pos h0]
  · rw [dif_neg h0,if_neg h0]
    by_cases h1:2 * root + 1 + 1<hi∧ltInt d[first + (2 * root + 1)]! d[first + (2 * root + 1 + 1)]! = true
    · rw [if_pos h1]
      have e:(decide (2 * root + 1 + 1<hi)&&ltInt d[first + (2 * root + 1)]! d[first + (2 * root + 1) + 1]!)=true:=by
        rw [Bool.and_eq_true]
        exact ⟨by simpa using h1.1,h1.2⟩
      rw [e,if_pos rfl]
      cases h3:ltInt d[first + root]! d[first + (2 * root + 1 + 1)]! with
      | false =>
        rfl
      | true =>
        show (if _h2:2 * root + 2<hi then _ else d)=_
        rw [dif_pos (by omega)]
        rfl
    · rw [if_neg h1]
      have e:(decide (2 * root + 1 + 1<hi)&&ltInt d[first + (2 * root + 1)]! d[first + (2 * root + 1) + 1]!)=false:=by
        cases hc:ltInt d[first + (2 * root + 1)]! d[first + (2 * root + 1) + 1]! with
        | false=>simp
        | true =>
          have h2:¬ 2 * root + 1 + 1<hi:=fun h=>h1 ⟨h,hc⟩
          simp [h2]
      rw [e,if_neg (by simp)]
      cases h3:ltInt d[first + root]! d[first + (2 * root + 1)]! with
      | false=>rfl
      | true=>rfl
theorem GZ {hi first root:Nat} {d:Array Int} (h:¬ 2 * root + 1≥hi):C1 hi first root d<hi∧root<C1 hi first root d:=by
  unfold C1
  split <;> omega
theorem CL {n hi first root:Nat} {d:Array Int} (hb:first + hi≤d.size) (hs:d.size<100000) (hr:root<100000) (h0:¬ 2 * root + 1≥hi) :
    aF n hi first (d.toList,(root:Int))=if ltInt d[first + root]! d[first + C1 hi first root d]! = false then some (.inr (.inr d.toList)) else some (.inl ((swp d (first + root) (first + C1 hi first root d)).toList,((C1 hi first root d:Nat):Int))):=by
  unfold aF C1
  dsimp only
  rw [HT (by omega),add1 (by omega),add1 (by omega),addN (a:=first) (b:=root) (by omega) (by omega),addN (a:=first) (b:=2 * root + 1) (by omega) (by omega),addN (a:=first) (b:=2 * root + 1 + 1) (by omega) (by omega),add1 (by omega)]
  have e3:first + (2 * root + 1) + 1=first + (2 * root + 1 + 1):=by omega
  rw [e3,if_neg (c:=decide ((((2 * root + 1:Nat):Nat):Int)≥(hi:Int))=true) (by simp; omega)]
  by_cases h1:2 * root + 1 + 1<hi
  · rw [if_pos (c:=decide ((((2 * root + 1 + 1:Nat):Nat):Int)<(hi:Int))=true) (by simp; omega),gA (i:=first + (2 * root + 1)) (by omega),gA (i:=first + (2 * root + 1 + 1)) (by omega),gA (i:=first + root) (by omega)]
    simp only [Option.bind_some,fx]
    cases h2:ltInt d[first + (2 * root + 1)]! d[first + (2 * root + 1 + 1)]! with
    | true =>
      rw [if_pos (c:=2 * root + 1 + 1<hi∧true=true) ⟨h1,rfl⟩,if_pos rfl,gS (by omega),Option.bind_some,Int.toNat_natCast,Int.toNat_natCast,sw]
      cases h3:ltInt d[first + root]! d[first + (2 * root + 1 + 1)]! <;> rfl
    | false =>
      rw [if_neg (c:=2 * root + 1 + 1<hi∧false=true) (fun h=>by cases h.2),if_neg (by simp),gS (by omega),Option.bind_some,Int.toNat_natCast,Int.toNat_natCast,sw]
      cases h3:ltInt d[first + root]! d[first + (2 * root + 1)]! <;> rfl
  · rw [if_neg (c:=decide ((((2 * root + 1 + 1:Nat):Nat):Int)<(hi:Int))=true) (by simp; omega),gA (i:=first + (2 * root + 1)) (by omega),gA (i:=first + root) (by omega)]
    simp only [Option.bind_some,fx]
    rw [if_neg (c:=2 * root + 1 + 1<hi∧ltInt d[first + (2 * root + 1)]! d[first + (2 * root + 1 + 1)]! = true) (fun h=>h1 h.1),gS (by omega),Option.bind_some,Int.toNat_natCast,Int.toNat_natCast,sw]
    cases h3:ltInt d[first + root]! d[first + (2 * root + 1)]! <;> rfl
theorem CM {n hi first root:Nat} {d:Array Int} (hr:root<100000) (h0:2 * root + 1≥hi):aF n hi first (d.toList,(root:Int))=some (.inr (.inl d.toList)):=by
  unfold aF
  dsimp only
  rw [HT (by omega),add1 (by omega),if_pos (by simp; omega)]
theorem BK (n hi first:Nat):∀ (m root:Nat) (d:Array Int),first + hi≤d.size→d.size<100000→root<100000→hi - root<m→∃ t,iter (fun s=>aF n hi first s) m (d.toList,(root:Int))=some t∧(t=.inl (siftDown ltInt hi first root d).toList∨t=.inr (siftDown ltInt hi first root d).toList)
  | 0,root,d,_,_,_,h=>by omega
  | m + 1,root,d,hb,hs,hr,hm=>by
    rw [aZ,Ec]
    by_cases h0:2 * root + 1≥hi
    · rw [CM hr h0,if_pos h0]
      exact ⟨_,rfl,.inl rfl⟩
    · rw [CL hb hs hr h0,if_neg h0]
      obtain ⟨k1,k2⟩:=GZ (first:=first) (d:=d) h0
      cases h3:ltInt d[first + root]! d[first + C1 hi first root d]! with
      | false =>
        rw [if_pos rfl,if_pos rfl]
        exact ⟨_,rfl,.inr rfl⟩
      | true =>
        rw [if_neg (by simp),if_neg (by simp)]
        exact BK n hi first m _ _ (by rw [kR]; exact hb) (by rw [kR]; exact hs) (by omega) (by omega)
theorem zH {n lo hi first:Nat} {d:Array Int} (hb:first + hi≤d.size) (hs:d.size<100000) (hl:lo<100000) (hn:d.size<n):bM n lo hi first d.toList=some (siftDown ltInt hi first lo d).toList:=by
  unfold bM
  obtain ⟨t,h1,h2⟩:=BK n hi first n lo d hb hs hl (by omega)
  rw [h1,Option.bind_some]
  rcases h2 with rfl | rfl <;> rfl
theorem AY {n a b k:Nat} {d:Array Int} (hab:a≤b) (hb:b≤d.size) (hs:d.size<100000) (hn:d.size<n) (hk:k + 1<100000) :
    aQ n a b (d.toList,(k:Int))=some (.inl ((siftDown ltInt (b - a) a k d).toList,(k:Int) - 1)):=by
  unfold aQ
  dsimp only
  rw [if_pos (by simp),mc (by omega) hab,zH (by omega) hs (by omega) hn,Option.bind_some,rZ (by omega) (by omega)]
theorem zI (n a b:Nat) (hab:a≤b):∀ (k m:Nat) (d:Array Int),b≤d.size→d.size<100000→d.size<n→k<m→k<100000→iter (fun s=>aQ n a b s) m (d.toList,(k:Int) - 1)=some ((heapBuild ltInt (b - a) a k d).toList)
  | k,0,d,_,_,_,h,_=>by omega
  | 0,m + 1,d,hb,hs,hn,_,_=>by
    rw [aZ]
    unfold aQ
    rw [if_neg (by simp)]
    rfl
  | k + 1,m + 1,d,hb,hs,hn,hm,hk=>by
    have e:(((k + 1:Nat):Int) - 1)=(k:Int):=by omega
    rw [aZ,e,AY hab hb hs hn hk]
    exact zI n a b hab k m (siftDown ltInt (b - a) a k d) (by rw [eF]; exact hb) (by rw [eF]; exact hs) (by rw [eF]; exact hn) (by omega) (by omega)
theorem im (hi first:Nat):∀ (k:Nat) (d:Array Int),(heapBuild ltInt hi first k d).size=d.size
  | 0,d=>rfl
  | k + 1,d=>by
    unfold heapBuild
    rw [im hi first k,eF]
theorem Ed {n a k:Nat} {d:Array Int} (hb:a + (k + 1)≤d.size) (hs:d.size<100000) (hn:d.size<n) :
    aR n a (d.toList,(k:Int))=some (.inl ((siftDown ltInt k a 0 (swp d a (a + k))).toList,(k:Int) - 1)):=by
  unfold aR
  dsimp only
  rw [if_pos (by simp),addN (by omega) (by omega),gA (by omega),Option.bind_some,gA (by omega),Option.bind_some,gS (by omega),Option.bind_some,Int.toNat_natCast,Int.toNat_natCast,sw]
  have e0:=zH (n:=n) (lo:=0) (hi:=k) (first:=a) (d:=swp d a (a + k)) (by rw [kR]; omega) (by rw [kR]; exact hs) (by omega) (by rw [kR]; exact hn)
  have e1:((0:Nat):Int)=0:=rfl
  rw [e1] at e0
  rw [e0,Option.bind_some,rZ (by omega) (by omega)]
theorem Ee (n a:Nat):∀ (k m:Nat) (d:Array Int),a + k≤d.size→d.size<100000→d.size<n→k<m→iter (fun s=>aR n a s) m (d.toList,(k:Int) - 1)=some ((heapPop ltInt a k d).toList)
  | k,0,d,_,_,_,h=>by omega
  | 0,m + 1,d,hb,hs,hn,_=>by
    rw [aZ]
    unfold aR
    rw [if_neg (by simp)]
    rfl
  | k + 1,m + 1,d,hb,hs,hn,hm=>by
    have e:(((k + 1:Nat):Int) - 1)=(k:Int):=by omega
    rw [aZ,e,Ed hb hs hn]
    exact Ee n a k m (siftDown ltInt k a 0 (swp d a (a + k))) (by rw [eF,kR]; omega) (by rw [eF,kR]; exact hs) (by rw [eF,kR]; exact hn) (by omega)
theorem Fg {n a b:Nat} {d:Array Int} (hab:a<b) (hb:b≤d.size) (hs:d.size<100000) (hn:d.size<n):ci n a b d.toList=some (Go.Sort.heapSort ltInt d a b).toList:=by
  unfold ci Go.Sort.heapSort
  rw [mc (by omega) (by omega)]
  have e1:fC .i64 (aj .i64 ((b - a:Nat):Int) 1) 2=(((b - a - 1) / 2 + 1:Nat):Int) - 1:=by
    rw [lU (by omega) (by omega)]
    have e0:Int.tdiv ((b - a - 1:Nat):Int) 2=(((b - a - 1) / 2:Nat):Int):=rfl
    unfold fC
    rw [e0,yc] <;> omega
  have e2:aj .i64 ((b - a:Nat):Int) 1=((b - a:Nat):Int) - 1:=rZ (by omega) (by omega)
  rw [e1,e2,zI n a b (by omega) _ n d hb hs hn (by omega) (by omega),Option.bind_some,Ee n a _ n _ (by rw [im]; omega) (by rw [im]; exact hs) (by rw [im]; exact hn) (by omega)]
  rfl

/-! ### Reversal -/
theorem Ef (n:Nat) (a b:Nat):∀ (m i j:Nat) (d:Array Int),a≤i→j<b→b≤d.size→d.size<100000→i<100000→j - i<m→∃ R:Array Int,iter (fun s=>bj n s) m (d.toList,(i:Int),(j:Int))=some R.toList∧PermIn a b d R
  | 0,_,_,_,_,_,_,_,_,h=>by omega
  | m + 1,i,j,d,ha,hj,hb,hs,hi,hm=>by
    rw [aZ]
    unfold bj
    dsimp only
    by_cases h:i<j
    · rw [if_pos (by simp; omega),gA (by omega),Option.bind_some,gA (by omega),Option.bind_some,gS (by omega),Option.bind_some,Int.toNat_natCast,Int.toNat_natCast,sw,add1 (by omega),lU (by omega) (by omega)]
      obtain ⟨R,h1,h2⟩:=Ef n a b m (i + 1) (j - 1) (swp d i j) (by omega) (by omega) (by rw [kR]; exact hb) (by rw [kR]; exact hs) (by omega) (by omega)
      exact ⟨R,h1,Go.Sort.permIn_trans _ _ _ _ _ (Go.Sort.swp_permIn d a b i j ha (by omega) (by omega) hj hb) h2⟩
    · rw [if_neg (by simp; omega)]
      exact ⟨d,rfl,Go.Sort.permIn_refl _ _ _⟩
theorem Fh {n a b:Nat} {d:Array Int} (hab:a<b) (hb:b≤d.size) (hs:d.size<100000) (hn:d.size<n):∃ R:Array Int,bW n a b d.toList=some R.toList∧PermIn a b d R:=by
  unfold bW
  rw [lU (by omega) (by omega)]
  obtain ⟨R,h1,h2⟩:=Ef n a b n a (b - 1) d (Nat.le_refl _) (by omega) hb hs (by omega) (by omega)
  rw [h1]
  exact ⟨R,rfl,h2⟩
end U
end Go.Proofs.Ytcckeabholabcaa
