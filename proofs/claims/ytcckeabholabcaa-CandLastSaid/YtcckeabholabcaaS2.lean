/- Sorting uint64s: partial insertion, the partitions. Plain law. -/
import Derived.Test.YtcckeabholabcaaS1
namespace Go.Proofs.Ytcckeabholabcaa
open Go A
open Go.Sort (ltInt swp PermIn SortedIn scanSorted shiftDown shiftUp scanUp scanDown partLoop partEqLoop partialIns fixDown fixUp)
namespace U

/-! ### Partial insertion -/
theorem zJ (n a b:Nat) (d:Array Int) (jc:Int) (hb:b≤d.size) (hs:d.size<100000):∀ (m i:Nat),1≤i→i<1000000→b - i<m→iter (fun s=>aB n a b s) m (d.toList,(i:Int),jc)=some (d.toList,((scanSorted ltInt d b i:Nat):Int),jc)
  | 0,i,_,_,h=>by omega
  | m + 1,i,h1,hi,hm=>by
    rw [aZ,scanSorted]
    have st:aB n a b (d.toList,(i:Int),jc)=if (decide (i<b)&&!ltInt d[i]! d[i - 1]!)=true then some (.inl (d.toList,((i + 1:Nat):Int),jc)) else some (.inr (d.toList,(i:Int),jc)):=by
      unfold aB
      dsimp only
      by_cases h:i<b
      · rw [if_pos (c:=decide ((i:Int)<(b:Int))=true) (by simp; omega),gA (by omega),lU (by omega) h1,gA (by omega),add1 (by omega)]
        simp only [Option.bind_some,fx]
        cases ltInt d[i]! d[i - 1]! <;> simp [h]
      · rw [if_neg (c:=decide ((i:Int)<(b:Int))=true) (by simp; omega)]
        simp [h]
    rw [st]
    by_cases h:(decide (i<b)&&!ltInt d[i]! d[i - 1]!)=true
    · rw [if_pos h,if_pos h]
      exact zJ n a b d jc hb hs m (i + 1) (by omega) (by simp at h; omega) (by simp at h; omega)
    · rw [if_neg h,if_neg h]
theorem uF (d:Array Int) (b i:Nat) (h:i≤b):i≤scanSorted ltInt d b i∧scanSorted ltInt d b i≤b:=by
  fun_induction scanSorted ltInt d b i with
  | case1 i hc ih =>
    simp only [Bool.and_eq_true,decide_eq_true_eq] at hc
    have:=ih (by omega)
    omega
  | case2 i hc=>omega
theorem io:∀ (j:Nat) (d:Array Int),(shiftDown ltInt j d).size=d.size
  | 0,d=>rfl
  | j + 1,d=>by
    unfold shiftDown
    split
    · rfl
    · rw [io j,kR]
theorem xU (b j:Nat) (d:Array Int):(shiftUp ltInt b j d).size=d.size:=by
  fun_induction shiftUp ltInt b j d <;> simp_all [kR]
theorem zK (n a b:Nat) (i jc:Int):∀ (j m:Nat) (d:Array Int),j<d.size→d.size<100000→j<m→iter (fun s=>au n a b s) m (d.toList,i,jc,(j:Int))=some ((shiftDown ltInt j d).toList,i,jc)
  | j,0,d,_,_,h=>by omega
  | 0,m + 1,d,hj,hs,_=>by
    rw [aZ]
    unfold au
    dsimp only
    rw [if_neg (by simp)]
    rfl
  | j + 1,m + 1,d,hj,hs,hm=>by
    have st:au n a b (d.toList,i,jc,((j + 1:Nat):Int))=if (!ltInt d[j + 1]! d[j]!)=true then some (.inr (d.toList,i,jc)) else some (.inl ((swp d (j + 1) j).toList,i,jc,(j:Int))):=by
      unfold au
      dsimp only
      rw [if_pos (c:=decide (((j + 1:Nat):Int)≥1)=true) (by simp; omega),lU (by omega) (by omega),Nat.add_sub_cancel,gA (by omega),gA (by omega)]
      simp only [Option.bind_some,fx]
      rw [gS (by omega),Option.bind_some,Int.toNat_natCast,Int.toNat_natCast,sw]
    rw [aZ,st]
    unfold shiftDown
    cases h:ltInt d[j + 1]! d[j]! with
    | false=>rfl
    | true=>exact zK n a b i jc j m (swp d (j + 1) j) (by rw [kR]; omega) (by rw [kR]; exact hs) (by omega)
theorem AZ (n a b:Nat) (i jc:Int):∀ (m j:Nat) (d:Array Int),1≤j→b≤d.size→d.size<100000→j<1000000→b - j<m→iter (fun s=>ao n a b s) m (d.toList,(j:Int),i,jc)=some ((shiftUp ltInt b j d).toList,i,jc)
  | 0,j,d,_,_,_,_,h=>by omega
  | m + 1,j,d,h1,hb,hs,hj,hm=>by
    have st:ao n a b (d.toList,(j:Int),i,jc)=if j<b then (if (!ltInt d[j]! d[j - 1]!)=true then some (.inr (d.toList,i,jc)) else some (.inl ((swp d j (j - 1)).toList,((j + 1:Nat):Int),i,jc))) else some (.inr (d.toList,i,jc)):=by
      unfold ao
      dsimp only
      by_cases h:j<b
      · rw [if_pos (c:=decide ((j:Int)<(b:Int))=true) (by simp; omega),if_pos h,lU (by omega) (by omega),gA (by omega),gA (by omega),add1 (by omega)]
        simp only [Option.bind_some,fx]
        rw [gS (by omega),Option.bind_some,Int.toNat_natCast,Int.toNat_natCast,sw]
      · rw [if_neg (c:=decide ((j:Int)<(b:Int))=true) (by simp; omega),if_neg h]
    rw [aZ,st,shiftUp]
    by_cases h:j<b
    · rw [if_pos h,if_pos h]
      cases h2:ltInt d[j]! d[j - 1]! with
      | false=>rfl
      | true=>exact AZ n a b i jc m (j + 1) (swp d j (j - 1)) (by omega) (by rw [kR]; exact hb) (by rw [kR]; exact hs) (by omega) (by omega)
    · rw [if_neg h,if_neg h]

def Kd (t:List Int⊕(List Int×Bool)):List Int×Bool:=match t with
  | .inl w=>(w,false)
  | .inr w=>w
theorem lV (a i:Nat) (d:Array Int):(fixDown ltInt a i d).size=d.size:=by
  unfold fixDown
  split
  · exact io _ _
  · rfl
theorem oO (b i:Nat) (d:Array Int):(fixUp ltInt b i d).size=d.size:=by
  unfold fixUp
  split
  · exact xU _ _ _
  · rfl
theorem Eg {n a b i:Nat} {jc:Int} {d:Array Int} (hi:a + 1≤i) (hib:i≤b) (hb:b≤d.size) (hs:d.size<100000) (hn:d.size<n) (hj:jc<5) (hj0:0≤jc) :
    av n a b (d.toList,(i:Int),jc)=if scanSorted ltInt d b i=b then some (.inr (.inr (d.toList,true))) else if b - a<50 then some (.inr (.inr (d.toList,false))) else
      some (.inl ((fixUp ltInt b (scanSorted ltInt d b i) (fixDown ltInt a (scanSorted ltInt d b i) (swp d (scanSorted ltInt d b i) (scanSorted ltInt d b i - 1)))).toList,((scanSorted ltInt d b i:Nat):Int),jc + 1)):=by
  obtain ⟨k1,k2⟩:=uF d b i hib
  unfold av
  dsimp only
  rw [if_pos (c:=decide (jc<5)=true) (by simpa using hj),zJ n a b d jc hb hs n i (by omega) (by omega) (by omega),Option.bind_some]
  dsimp only
  generalize scanSorted ltInt d b i=k at k1 k2 ⊢
  by_cases h1:k=b
  · rw [if_pos (c:=((k:Int)==(b:Int))=true) (by simp [h1]),if_pos h1]
  · rw [if_neg (c:=((k:Int)==(b:Int))=true) (by simp; omega),if_neg h1,mc (a:=b) (b:=a) (by omega) (by omega)]
    by_cases h2:b - a<50
    · rw [if_pos (c:=decide (((b - a:Nat):Int)<50)=true) (by simp; omega),if_pos h2]
    · rw [if_neg (c:=decide (((b - a:Nat):Int)<50)=true) (by simp; omega),if_neg h2,lU (by omega) (by omega),gA (by omega),Option.bind_some,gA (by omega),Option.bind_some,gS (by omega),Option.bind_some,Int.toNat_natCast,Int.toNat_natCast,sw,mc (a:=k) (b:=a) (by omega) (by omega),yb (a:=jc) (by omega) (by omega)]
      unfold fixDown
      by_cases h3:k - a≥2
      · rw [if_pos (c:=decide (((k - a:Nat):Int)≥2)=true) (by simp; omega),if_pos h3,zK n a b k jc (k - 1) n (swp d k (k - 1)) (by rw [kR]; omega) (by rw [kR]; exact hs) (by omega),Option.bind_some]
        dsimp only
        unfold fixUp
        rw [mc (a:=b) (b:=k) (by omega) (by omega),add1 (by omega)]
        by_cases h4:b - k≥2
        · rw [if_pos (c:=decide (((b - k:Nat):Int)≥2)=true) (by simp; omega),if_pos h4,AZ n a b k jc n (k + 1) (shiftDown ltInt (k - 1) (swp d k (k - 1))) (by omega) (by rw [io,kR]; exact hb) (by rw [io,kR]; exact hs) (by omega) (by omega),Option.bind_some]
          dsimp only
          rw [yb (a:=jc) (by omega) (by omega)]
        · rw [if_neg (c:=decide (((b - k:Nat):Int)≥2)=true) (by simp; omega),if_neg h4,yb (a:=jc) (by omega) (by omega)]
      · rw [if_neg (c:=decide (((k - a:Nat):Int)≥2)=true) (by simp; omega),if_neg h3]
        unfold fixUp
        rw [mc (a:=b) (b:=k) (by omega) (by omega),add1 (by omega)]
        by_cases h4:b - k≥2
        · rw [if_pos (c:=decide (((b - k:Nat):Int)≥2)=true) (by simp; omega),if_pos h4,AZ n a b k jc n (k + 1) (swp d k (k - 1)) (by omega) (by rw [kR]; exact hb) (by rw [kR]; exact hs) (by omega) (by omega),Option.bind_some]
          dsimp only
          rw [yb (a:=jc) (by omega) (by omega)]
        · rw [if_neg (c:=decide (((b - k:Nat):Int)≥2)=true) (by simp; omega),if_neg h4]
theorem zL (n a b:Nat):∀ (s m i:Nat) (d:Array Int),a + 1≤i→i≤b→b≤d.size→d.size<100000→d.size<n→s≤5→s<m→∃ t,iter (fun s=>av n a b s) m (d.toList,(i:Int),5 - (s:Int))=some t∧Kd t=((partialIns ltInt a b s i d).1.toList,(partialIns ltInt a b s i d).2)
  | s,0,i,d,_,_,_,_,_,_,h=>by omega
  | 0,m + 1,i,d,_,_,_,_,_,_,_=>by
    rw [aZ]
    unfold av
    rw [if_neg (by simp)]
    exact ⟨_,rfl,rfl⟩
  | s + 1,m + 1,i,d,hi,hib,hb,hs,hn,h5,hm=>by
    rw [aZ,Eg hi hib hb hs hn (by omega) (by omega),Go.Sort.partialIns_succ]
    obtain ⟨k1,k2⟩:=uF d b i hib
    by_cases h1:scanSorted ltInt d b i=b
    · rw [if_pos h1,if_pos h1]
      exact ⟨_,rfl,rfl⟩
    · rw [if_neg h1,if_neg h1]
      by_cases h2:b - a<50
      · rw [if_pos h2,if_pos h2]
        exact ⟨_,rfl,rfl⟩
      · rw [if_neg h2,if_neg h2]
        have e:(5 - ((s + 1:Nat):Int) + 1)=5 - (s:Int):=by omega
        rw [e]
        exact zL n a b s m _ _ (by omega) k2 (by rw [oO,lV,kR]; exact hb) (by rw [oO,lV,kR]; exact hs) (by rw [oO,lV,kR]; exact hn) (by omega) (by omega)
theorem G0 {n a b:Nat} {d:Array Int} (hab:a<b) (hb:b≤d.size) (hs:d.size<100000) (hn:d.size<n) (h5:5<n):aY n a b d.toList=some ((Go.Sort.partialInsertionSort ltInt d a b).2,(Go.Sort.partialInsertionSort ltInt d a b).1.toList):=by
  unfold aY
  rw [add1 (by omega)]
  obtain ⟨t,h1,h2⟩:=zL n a b 5 n (a + 1) d (Nat.le_refl _) hab hb hs hn (Nat.le_refl _) h5
  have e:(5 - ((5:Nat):Int))=0:=by omega
  rw [e] at h1
  rw [h1,Option.bind_some]
  unfold Go.Sort.partialInsertionSort
  have e1:=congrArg Prod.fst h2
  have e2:=congrArg Prod.snd h2
  dsimp only at e1 e2
  rw [← e1,← e2]
  cases t <;> rfl

/-! ### The partitions -/
theorem xV (p q:Int→Bool) (hq:∀ x,q x=!p x) {d:Array Int} {i j:Nat} (hi:1≤i) (hij:i≤j + 1):i≤scanUp p d j i∧scanUp p d j i≤j + 1∧scanDown q d (scanUp p d j i) j≤j∧scanUp p d j i≤scanDown q d (scanUp p d j i) j + 1∧(¬ scanUp p d j i>scanDown q d (scanUp p d j i) j→scanUp p d j i<scanDown q d (scanUp p d j i) j):=by
  obtain ⟨h1,h2,h3,h4,_,_,h7⟩:=Go.Sort.round_facts p q hq d (i - 1) (j + 1) i j (by omega) hij (fun t h1 h2=>by omega) (fun t h1 h2=>by omega)
  exact ⟨h1,h2,h3,h4,fun h=>(h7 h).2.2⟩
theorem xW {σ:Type} (mk:Int→σ) (p:Int→Bool) (d:Array Int) (j:Nat) {g:σ→Option (σ⊕σ)} (hg:∀ i:Nat,1≤i→i<100000→g (mk i)=if (decide (i≤j)&&p d[i]!)=true then some (.inl (mk ((i + 1:Nat):Int))) else some (.inr (mk i))) (hj:j + 1<100000) :
    ∀ (m i:Nat),1≤i→i≤j + 1→j + 1 - i<m→iter g m (mk i)=some (mk ((scanUp p d j i:Nat):Int))
  | 0,i,_,_,h=>by omega
  | m + 1,i,h1,hi,hm=>by
    rw [aZ,hg i h1 (by omega),scanUp]
    by_cases h:(decide (i≤j)&&p d[i]!)=true
    · rw [if_pos h,if_pos h]
      simp only [Bool.and_eq_true,decide_eq_true_eq] at h
      exact xW mk p d j hg hj m (i + 1) (by omega) (by omega) (by omega)
    · rw [if_neg h,if_neg h]
theorem pV {σ:Type} (mk:Int→σ) (p:Int→Bool) (d:Array Int) (i:Nat) (hi:1≤i) {g:σ→Option (σ⊕σ)} (hg:∀ j:Nat,j<d.size→g (mk j)=if (decide (i≤j)&&p d[j]!)=true then some (.inl (mk ((j:Int) - 1))) else some (.inr (mk j))) :
    ∀ (j m:Nat),j<d.size→j<m→iter g m (mk j)=some (mk ((scanDown p d i j:Nat):Int))
  | j,0,_,h=>by omega
  | 0,m + 1,hj,hm=>by
    rw [aZ,hg 0 hj]
    have:¬ (decide (i≤0)&&p d[0]!)=true:=by simp; omega
    rw [if_neg this]
    rfl
  | j + 1,m + 1,hj,hm=>by
    rw [aZ,hg (j + 1) hj,scanDown]
    by_cases h:(decide (i≤j + 1)&&p d[j + 1]!)=true
    · rw [if_pos h,if_pos h]
      have e:(((j + 1:Nat):Int) - 1)=(j:Int):=by omega
      rw [e]
      exact pV mk p d i hi hg j m (by omega) (by omega)
    · rw [if_neg h,if_neg h]

theorem HU (n a j:Nat) (jj:Int) (d:Array Int) (hjj:jj=(j:Int)) (ha:a<d.size) (hj:j<d.size) (hs:d.size<100000) (hn:d.size<n) (i:Nat) (h1:1≤i) (hi:i≤j + 1) :
    iter (fun s=>bu n a s) n (d.toList,(i:Int),jj)=some (d.toList,((scanUp (fun x=>ltInt x d[a]!) d j i:Nat):Int),jj):=by
  refine xW (fun x=>(d.toList,x,jj)) (fun x=>ltInt x d[a]!) d j (fun i h1 h2=>?_) (by omega) n i h1 hi (by omega)
  subst hjj
  unfold bu
  dsimp only
  by_cases h:i≤j
  · rw [if_pos (c:=decide ((i:Int)≤(j:Int))=true) (by simpa using h),gA (by omega),gA ha,add1 (by omega)]
    simp only [Option.bind_some,fx]
    cases ltInt d[i]! d[a]! <;> simp [h]
  · rw [if_neg (c:=decide ((i:Int)≤(j:Int))=true) (by simpa using h)]
    simp [h]
theorem Fi (n a i:Nat) (d:Array Int) (ha:a<d.size) (hs:d.size<100000) (hn:d.size<n) (h1:1≤i) (j:Nat) (hj:j<d.size) :
    iter (fun s=>bv n a s) n (d.toList,(i:Int),(j:Int))=some (d.toList,(i:Int),((scanDown (fun x=>!ltInt x d[a]!) d i j:Nat):Int)):=by
  refine pV (fun x=>(d.toList,(i:Int),x)) (fun x=>!ltInt x d[a]!) d i h1 (fun j hj=>?_) j n hj (by omega)
  unfold bv
  dsimp only
  by_cases h:i≤j
  · rw [if_pos (c:=decide ((i:Int)≤(j:Int))=true) (by simpa using h),gA hj,gA ha,rZ (by omega) (by omega)]
    simp only [Option.bind_some,fx]
    cases ltInt d[j]! d[a]! <;> simp [h]
  · rw [if_neg (c:=decide ((i:Int)≤(j:Int))=true) (by simpa using h)]
    simp [h]
theorem BL (n a:Nat):∀ (m i j:Nat) (d:Array Int),1≤i→i≤j + 1→j<d.size→a<d.size→d.size<100000→d.size<n→j + 1 - i<m→iter (fun s=>ba n a s) m (d.toList,(i:Int),(j:Int))=some ((partLoop ltInt a i j d).2.toList,(((partLoop ltInt a i j d).1:Nat):Int))
  | 0,_,_,_,_,_,_,_,_,_,h=>by omega
  | m + 1,i,j,d,h1,hij,hj,ha,hs,hn,hm=>by
    obtain ⟨b1,b2,b3,b4,b5⟩:=xV (fun x=>ltInt x d[a]!) (fun x=>!ltInt x d[a]!) (fun _=>rfl) (d:=d) h1 hij
    have st:ba n a (d.toList,(i:Int),(j:Int))=if scanUp (fun x=>ltInt x d[a]!) d j i>scanDown (fun x=>!ltInt x d[a]!) d (scanUp (fun x=>ltInt x d[a]!) d j i) j then some (.inr (d.toList,((scanDown (fun x=>!ltInt x d[a]!) d (scanUp (fun x=>ltInt x d[a]!) d j i) j:Nat):Int)))
        else some (.inl ((swp d (scanUp (fun x=>ltInt x d[a]!) d j i) (scanDown (fun x=>!ltInt x d[a]!) d (scanUp (fun x=>ltInt x d[a]!) d j i) j)).toList,((scanUp (fun x=>ltInt x d[a]!) d j i + 1:Nat):Int),((scanDown (fun x=>!ltInt x d[a]!) d (scanUp (fun x=>ltInt x d[a]!) d j i) j - 1:Nat):Int))):=by
      unfold ba
      dsimp only
      rw [HU n a j _ d rfl ha hj hs hn i h1 hij,Option.bind_some]
      dsimp only
      rw [Fi n a _ d ha hs hn (by omega) j hj,Option.bind_some]
      dsimp only
      generalize scanUp (fun x=>ltInt x d[a]!) d j i=i2 at b1 b2 b3 b4 b5 ⊢
      generalize scanDown (fun x=>!ltInt x d[a]!) d i2 j=j2 at b1 b2 b3 b4 b5 ⊢
      by_cases h:i2>j2
      · rw [if_pos (c:=decide ((i2:Int)>(j2:Int))=true) (by simpa using h),if_pos h]
      · have:=b5 h
        rw [if_neg (c:=decide ((i2:Int)>(j2:Int))=true) (by simpa using h),if_neg h,gA (by omega),Option.bind_some,gA (by omega),Option.bind_some,gS (by omega),Option.bind_some,Int.toNat_natCast,Int.toNat_natCast,sw,add1 (by omega),lU (by omega) (by omega)]
    rw [aZ,st,Go.Sort.partLoop_eq]
    by_cases h:scanUp (fun x=>ltInt x d[a]!) d j i>scanDown (fun x=>!ltInt x d[a]!) d (scanUp (fun x=>ltInt x d[a]!) d j i) j
    · rw [if_pos h,if_pos h]
    · rw [if_neg h,if_neg h]
      have:=b5 h
      exact BL n a m _ _ _ (by omega) (by omega) (by rw [kR]; omega) (by rw [kR]; exact ha) (by rw [kR]; exact hs) (by rw [kR]; exact hn) (by omega)
theorem m4 (a:Nat):∀ (k i j:Nat) (d:Array Int),1≤i→i≤j + 1→j + 1 - i≤k→(partLoop ltInt a i j d).2.size=d.size∧(partLoop ltInt a i j d).1≤j
  | k,i,j,d,h1,hij,hk=>by
    obtain ⟨b1,b2,b3,b4,b5⟩:=xV (fun x=>ltInt x d[a]!) (fun x=>!ltInt x d[a]!) (fun _=>rfl) (d:=d) h1 hij
    rw [Go.Sort.partLoop_eq]
    by_cases h:scanUp (fun x=>ltInt x d[a]!) d j i>scanDown (fun x=>!ltInt x d[a]!) d (scanUp (fun x=>ltInt x d[a]!) d j i) j
    · rw [if_pos h]
      exact ⟨rfl,b3⟩
    · rw [if_neg h]
      have:=b5 h
      cases k with
      | zero=>omega
      | succ k =>
        obtain ⟨r1,r2⟩:=m4 a k (scanUp (fun x=>ltInt x d[a]!) d j i + 1) (scanDown (fun x=>!ltInt x d[a]!) d (scanUp (fun x=>ltInt x d[a]!) d j i) j - 1) (swp d (scanUp (fun x=>ltInt x d[a]!) d j i) (scanDown (fun x=>!ltInt x d[a]!) d (scanUp (fun x=>ltInt x d[a]!) d j i) j)) (by omega) (by omega) (by omega)
        exact ⟨by rw [r1,kR],by omega⟩
theorem HV {n a b pv:Nat} {d:Array Int} (h1:a≤pv) (h2:pv<b) (hb:b≤d.size) (hs:d.size<100000) (hn:d.size<n) :
    ce n a b pv d.toList=some ((((Go.Sort.partition ltInt d a b pv).1:Nat):Int),(Go.Sort.partition ltInt d a b pv).2.1,(Go.Sort.partition ltInt d a b pv).2.2.toList):=by
  have hsz:=kR d a pv
  have ha:a<(swp d a pv).size:=by omega
  obtain ⟨b1,b2,b3,b4,b5⟩:=xV (fun x=>ltInt x (swp d a pv)[a]!) (fun x=>!ltInt x (swp d a pv)[a]!) (fun _=>rfl) (d:=swp d a pv) (i:=a + 1) (j:=b - 1) (by omega) (by omega)
  have up:iter (fun s=>bq n a b pv d.toList d[pv]! d[a]! s) n ((a + 1:Nat):Int)=some ((scanUp (fun x=>ltInt x (swp d a pv)[a]!) (swp d a pv) (b - 1) (a + 1):Nat):Int):=by
    refine xW (fun x=>x) (fun x=>ltInt x (swp d a pv)[a]!) (swp d a pv) (b - 1) (fun i h1 h2=>?_) (by omega) n (a + 1) (by omega) (by omega) (by omega)
    unfold bq
    rw [Int.toNat_natCast,Int.toNat_natCast,sw,lU (by omega) (by omega)]
    by_cases h:i≤b - 1
    · rw [if_pos (c:=decide ((i:Int)≤((b - 1:Nat):Int))=true) (by simp; omega),gA (by omega),gA ha,add1 (by omega)]
      simp only [Option.bind_some,fx]
      cases ltInt (swp d a pv)[i]! (swp d a pv)[a]! <;> simp [h]
    · rw [if_neg (c:=decide ((i:Int)≤((b - 1:Nat):Int))=true) (by simp; omega)]
      simp [h]
  unfold ce Go.Sort.partition
  rw [gA (i:=pv) (by omega),Option.bind_some,gA (i:=a) (by omega),Option.bind_some,Int.toNat_natCast,Int.toNat_natCast,gS (i:=a) (j:=pv) (by omega),Option.bind_some,add1 (by omega),up,Option.bind_some]
  dsimp only
  generalize scanUp (fun x=>ltInt x (swp d a pv)[a]!) (swp d a pv) (b - 1) (a + 1)=i2 at b1 b2 b3 b4 b5 ⊢
  have dn:iter (fun s=>br n a pv d.toList d[pv]! d[a]! i2 s) n ((b - 1:Nat):Int)=some ((scanDown (fun x=>!ltInt x (swp d a pv)[a]!) (swp d a pv) i2 (b - 1):Nat):Int):=by
    refine pV (fun x=>x) (fun x=>!ltInt x (swp d a pv)[a]!) (swp d a pv) i2 (by omega) (fun j hj=>?_) (b - 1) n (by omega) (by omega)
    unfold br
    rw [Int.toNat_natCast,Int.toNat_natCast,sw]
    by_cases h:i2≤j
    · rw [if_pos (c:=decide ((i2:Int)≤(j:Int))=true) (by simpa using h),gA hj,gA ha,rZ (by omega) (by omega)]
      simp only [Option.bind_some,fx]
      cases ltInt (swp d a pv)[j]! (swp d a pv)[a]! <;> simp [h]
    · rw [if_neg (c:=decide ((i2:Int)≤(j:Int))=true) (by simpa using h)]
      simp [h]
  rw [lU (by omega) (by omega),dn,Option.bind_some,sw]
  generalize scanDown (fun x=>!ltInt x (swp d a pv)[a]!) (swp d a pv) i2 (b - 1)=j2 at b3 b4 b5 ⊢
  by_cases h:i2>j2
  · rw [if_pos (c:=decide ((i2:Int)>(j2:Int))=true) (by simpa using h),if_pos h,gA (i:=a) (by omega),Option.bind_some,gA (i:=j2) (by omega),Option.bind_some,gS (by omega),Option.bind_some,Int.toNat_natCast,sw]
  · have:=b5 h
    rw [if_neg (c:=decide ((i2:Int)>(j2:Int))=true) (by simpa using h),if_neg h,gA (i:=j2) (by omega),Option.bind_some,gA (i:=i2) (by omega),Option.bind_some,gS (by omega),Option.bind_some,Int.toNat_natCast,Int.toNat_natCast,sw,add1 (by omega),lU (by omega) (by omega)]
    have hz:=kR (swp d a pv) i2 j2
    obtain ⟨f1,f2⟩:=m4 a (j2 + 1) (i2 + 1) (j2 - 1) (swp (swp d a pv) i2 j2) (by omega) (by omega) (by omega)
    rw [BL n a n (i2 + 1) (j2 - 1) (swp (swp d a pv) i2 j2) (by omega) (by omega) (by omega) (by omega) (by omega) (by omega) (by omega),Option.bind_some]
    dsimp only
    rw [gA (i:=a) (by omega),Option.bind_some,gA (by omega),Option.bind_some,Int.toNat_natCast,gS (by omega),Option.bind_some,sw]

theorem HW (n a j:Nat) (d:Array Int) (ha:a<d.size) (hj:j<d.size) (hs:d.size<100000) (hn:d.size<n) (i:Nat) (h1:1≤i) (hi:i≤j + 1) :
    iter (fun s=>bg n a s) n (d.toList,(j:Int),(i:Int))=some (d.toList,(j:Int),((scanUp (fun x=>!ltInt d[a]! x) d j i:Nat):Int)):=by
  refine xW (fun x=>(d.toList,(j:Int),x)) (fun x=>!ltInt d[a]! x) d j (fun i h1 h2=>?_) (by omega) n i h1 hi (by omega)
  unfold bg
  dsimp only
  by_cases h:i≤j
  · rw [if_pos (c:=decide ((i:Int)≤(j:Int))=true) (by simpa using h),gA ha,gA (by omega),add1 (by omega)]
    simp only [Option.bind_some,fx]
    cases ltInt d[a]! d[i]! <;> simp [h]
  · rw [if_neg (c:=decide ((i:Int)≤(j:Int))=true) (by simpa using h)]
    simp [h]
theorem Fj (n a i:Nat) (d:Array Int) (ha:a<d.size) (hs:d.size<100000) (hn:d.size<n) (h1:1≤i) (j:Nat) (hj:j<d.size) :
    iter (fun s=>bh n a s) n (d.toList,(j:Int),(i:Int))=some (d.toList,((scanDown (fun x=>ltInt d[a]! x) d i j:Nat):Int),(i:Int)):=by
  refine pV (fun x=>(d.toList,x,(i:Int))) (fun x=>ltInt d[a]! x) d i h1 (fun j hj=>?_) j n hj (by omega)
  unfold bh
  dsimp only
  by_cases h:i≤j
  · rw [if_pos (c:=decide ((i:Int)≤(j:Int))=true) (by simpa using h),gA ha,gA hj,rZ (by omega) (by omega)]
    simp only [Option.bind_some,fx]
    cases ltInt d[a]! d[j]! <;> simp [h]
  · rw [if_neg (c:=decide ((i:Int)≤(j:Int))=true) (by simpa using h)]
    simp [h]
theorem BM (n a:Nat):∀ (m i j:Nat) (d:Array Int),1≤i→i≤j + 1→j<d.size→a<d.size→d.size<100000→d.size<n→j + 1 - i<m→iter (fun s=>aM n a s) m (d.toList,(j:Int),(i:Int))=some ((partEqLoop ltInt a i j d).2.toList,(((partEqLoop ltInt a i j d).1:Nat):Int))
  | 0,_,_,_,_,_,_,_,_,_,h=>by omega
  | m + 1,i,j,d,h1,hij,hj,ha,hs,hn,hm=>by
    obtain ⟨b1,b2,b3,b4,b5⟩:=xV (fun x=>!ltInt d[a]! x) (fun x=>ltInt d[a]! x) (fun _=>by simp) (d:=d) h1 hij
    have st:aM n a (d.toList,(j:Int),(i:Int))=if scanUp (fun x=>!ltInt d[a]! x) d j i>scanDown (fun x=>ltInt d[a]! x) d (scanUp (fun x=>!ltInt d[a]! x) d j i) j then some (.inr (d.toList,((scanUp (fun x=>!ltInt d[a]! x) d j i:Nat):Int)))
        else some (.inl ((swp d (scanUp (fun x=>!ltInt d[a]! x) d j i) (scanDown (fun x=>ltInt d[a]! x) d (scanUp (fun x=>!ltInt d[a]! x) d j i) j)).toList,((scanDown (fun x=>ltInt d[a]! x) d (scanUp (fun x=>!ltInt d[a]! x) d j i) j - 1:Nat):Int),((scanUp (fun x=>!ltInt d[a]! x) d j i + 1:Nat):Int))):=by
      unfold aM
      dsimp only
      rw [HW n a j d ha hj hs hn i h1 hij,Option.bind_some]
      dsimp only
      rw [Fj n a _ d ha hs hn (by omega) j hj,Option.bind_some]
      dsimp only
      generalize scanUp (fun x=>!ltInt d[a]! x) d j i=i2 at b1 b2 b3 b4 b5 ⊢
      generalize scanDown (fun x=>ltInt d[a]! x) d i2 j=j2 at b1 b2 b3 b4 b5 ⊢
      by_cases h:i2>j2
      · rw [if_pos (c:=decide ((i2:Int)>(j2:Int))=true) (by simpa using h),if_pos h]
      · have:=b5 h
        rw [if_neg (c:=decide ((i2:Int)>(j2:Int))=true) (by simpa using h),if_neg h,gA (by omega),Option.bind_some,gA (by omega),Option.bind_some,gS (by omega),Option.bind_some,Int.toNat_natCast,Int.toNat_natCast,sw,add1 (by omega),lU (by omega) (by omega)]
    rw [aZ,st,Go.Sort.partEqLoop_eq]
    by_cases h:scanUp (fun x=>!ltInt d[a]! x) d j i>scanDown (fun x=>ltInt d[a]! x) d (scanUp (fun x=>!ltInt d[a]! x) d j i) j
    · rw [if_pos h,if_pos h]
    · rw [if_neg h,if_neg h]
      have:=b5 h
      exact BM n a m _ _ _ (by omega) (by omega) (by rw [kR]; omega) (by rw [kR]; exact ha) (by rw [kR]; exact hs) (by rw [kR]; exact hn) (by omega)
theorem HX {n a b pv:Nat} {d:Array Int} (h1:a≤pv) (h2:pv<b) (hb:b≤d.size) (hs:d.size<100000) (hn:d.size<n) :
    bL n a b pv d.toList=some ((((Go.Sort.partitionEqual ltInt d a b pv).1:Nat):Int),(Go.Sort.partitionEqual ltInt d a b pv).2.toList):=by
  have hsz:=kR d a pv
  unfold bL Go.Sort.partitionEqual
  rw [gA (i:=pv) (by omega),Option.bind_some,gA (i:=a) (by omega),Option.bind_some,Int.toNat_natCast,Int.toNat_natCast,gS (i:=a) (j:=pv) (by omega),Option.bind_some,add1 (by omega),lU (by omega) (by omega),sw,BM n a n (a + 1) (b - 1) (swp d a pv) (by omega) (by omega) (by omega) (by omega) (by omega) (by omega) (by omega),Option.bind_some]
end U
end Go.Proofs.Ytcckeabholabcaa
