/- Sorting uint64s: the recursion; a sorted list of each kind there is once. Plain law. -/
import Derived.Test.YtcckeabholabcaaS3
namespace Go.Proofs.Ytcckeabholabcaa
open Go A
open Go.Sort (ltInt swp PermIn SortedIn Below)
namespace U

abbrev W6:=List Int×Int×Int×Int×Bool×Bool
abbrev F5:=List Int×Int×Int×Int×Int×Int×Bool×Int×Int×Int×Bool×Bool×Bool
def G5 (w:F5):W6:=(w.1,w.2.1,w.2.2.1,w.2.2.2.1,w.2.2.2.2.2.2.1,w.2.2.2.2.2.2.2.2.2.2.2.2)
def CO (a b:Nat) (d R:Array Int):Prop:=PermIn a b d R∧SortedIn ltInt a b R
def Good (a b:Nat) (d:Array Int) (s:W6):Prop:=∃ (L:Array Int) (a' b' lim:Nat) (wb wp:Bool),s=(L.toList,(a':Int),(b':Int),(lim:Int),wb,wp)∧a'≤b'∧b' - a'<b - a∧b'≤L.size∧L.size=d.size∧lim≤1000∧Below ltInt a' b' L∧∀ R,CO a' b' L R→CO a b d R
theorem Good.of {a b:Nat} {d d2:Array Int} {s:W6} (hp:PermIn a b d d2) (h:Good a b d2 s):Good a b d s:=by
  obtain ⟨L,a',b',lim,wb,wp,h1,h2,h3,h4,h5,h6,h7,h8⟩:=h
  exact ⟨L,a',b',lim,wb,wp,h1,h2,h3,h4,by rw [h5,hp.1],h6,h7,fun R hR=>⟨Go.Sort.permIn_trans _ _ _ _ _ hp (h8 R hR).1,(h8 R hR).2⟩⟩
theorem H0:Go.Sort.SWO ltInt:=Go.Sort.swo_ltInt
def rm (rc:Int→Int→Int→List Int→Option (List Int)) (k:Nat):Prop:=∀ (a b lim:Nat) (d:Array Int),b - a<k→a≤b→b≤d.size→d.size≤1000→lim≤1000→Below ltInt a b d→∃ R:Array Int,rc a b lim d.toList=some R.toList∧CO a b d R

section
variable {n k:Nat} {rc:Int→Int→Int→List Int→Option (List Int)}
theorem c6 (hrec:rm rc k) (hn:1000<n) {a b pv lim:Nat} {l:Int} {d:Array Int} (hk:b - a≤k) (h1:a≤pv) (h2:pv<b) (hb:b≤d.size) (hs:d.size≤1000) (hl:lim≤1000) (hB:Below ltInt a b d) :
    ∃ w:W6,aU n rc (d.toList,(a:Int),l,(pv:Int),(b:Int),(lim:Int))=some w∧Good a b d w:=by
  unfold aU
  dsimp only
  rw [HV h1 h2 hb (by omega) (by omega),Option.bind_some]
  dsimp only
  have hx:Go.Sort.partition ltInt d a b pv=((Go.Sort.partition ltInt d a b pv).1,(Go.Sort.partition ltInt d a b pv).2.1,(Go.Sort.partition ltInt d a b pv).2.2):=rfl
  obtain ⟨g1,g2,hsz,hBa,hBr,hleft,hright⟩:=Go.Sort.round_part H0 (Go.Sort.partition_holds ltInt) h1 h2 hb hB hx
  generalize (Go.Sort.partition ltInt d a b pv).1=mid at g1 g2 hBa hBr hleft hright ⊢
  generalize (Go.Sort.partition ltInt d a b pv).2.2=d4 at hsz hBa hBr hleft hright ⊢
  generalize (Go.Sort.partition ltInt d a b pv).2.1=ap
  unfold b8
  dsimp only
  rw [mc (a:=mid) (b:=a) (by omega) (by omega),mc (a:=b) (b:=mid) (by omega) (by omega),add1 (by omega)]
  by_cases h:mid - a<b - mid
  · rw [if_pos (c:=decide (((mid - a:Nat):Int)<((b - mid:Nat):Int))=true) (by simp; omega)]
    obtain ⟨L,e,l1,l2⟩:=hrec a mid lim d4 (by omega) g1 (by omega) (by omega) hl hBa
    rw [e,Option.bind_some,Option.bind_some]
    obtain ⟨hBL,hfin⟩:=hleft L l1 l2
    exact ⟨_,rfl,L,mid + 1,b,lim,_,_,rfl,by omega,by omega,by rw [l1.1,hsz]; exact hb,by rw [l1.1,hsz],hl,hBL,fun R hR=>hfin R hR.1 hR.2⟩
  · rw [if_neg (c:=decide (((mid - a:Nat):Int)<((b - mid:Nat):Int))=true) (by simp; omega)]
    obtain ⟨L,e,l1,l2⟩:=hrec (mid + 1) b lim d4 (by omega) (by omega) (by omega) (by omega) hl hBr
    rw [e,Option.bind_some,Option.bind_some]
    obtain ⟨hBL,hfin⟩:=hright L l1 l2
    exact ⟨_,rfl,L,a,mid,lim,_,_,rfl,by omega,by omega,by rw [l1.1,hsz]; omega,by rw [l1.1,hsz],hl,hBL,fun R hR=>hfin R hR.1 hR.2⟩
theorem c5 (hrec:rm rc k) (hn:1000<n) {a b pv lim:Nat} {l:Int} {wb wp:Bool} {d:Array Int} (hk:b - a≤k) (h1:a≤pv) (h2:pv<b) (hb:b≤d.size) (hs:d.size≤1000) (hl:lim≤1000) (hB:Below ltInt a b d) :
    (∃ w:F5,ak n rc (d.toList,(a:Int),l,(pv:Int),(b:Int),(lim:Int),wb,wp)=some (.inl w)∧Good a b d (G5 w))∨∃ w:W6,ak n rc (d.toList,(a:Int),l,(pv:Int),(b:Int),(lim:Int),wb,wp)=some (.inr w)∧Good a b d w:=by
  obtain ⟨w,hw,hg⟩:=c6 (l:=l) hrec hn hk h1 h2 hb hs hl hB
  unfold ak
  dsimp only
  by_cases h:0<a
  · rw [if_pos (c:=decide ((a:Int)>0)=true) (by simp; omega),lU (by omega) (by omega),gA (by omega),gA (by omega)]
    simp only [Option.bind_some,fx]
    cases hc:ltInt d[a - 1]! d[pv]! with
    | false =>
      rw [if_pos (c:=(!false)=true) rfl,HX h1 h2 hb (by omega) (by omega),Option.bind_some]
      have hx:Go.Sort.partitionEqual ltInt d a b pv=((Go.Sort.partitionEqual ltInt d a b pv).1,(Go.Sort.partitionEqual ltInt d a b pv).2):=rfl
      obtain ⟨g1,g2,hsz,hBL,hfin⟩:=Go.Sort.round_eq H0 (Go.Sort.partitionEqual_holds ltInt) h h1 h2 hb hB hc hx
      exact .inl ⟨_,rfl,_,_,b,lim,wb,wp,rfl,g2,by omega,by rw [hsz]; exact hb,hsz,hl,hBL,fun R hR=>hfin R hR.1 hR.2⟩
    | true =>
      rw [if_neg (by simp),hw,Option.bind_some]
      exact .inr ⟨w,rfl,hg⟩
  · rw [if_neg (c:=decide ((a:Int)>0)=true) (by simp; omega),hw,Option.bind_some]
    exact .inr ⟨w,rfl,hg⟩
abbrev Out:=F5⊕(W6⊕List Int)
def Eh (a b:Nat) (d:Array Int) (t:Option Out):Prop:=(∃ w:F5,t=some (.inl w)∧Good a b d (G5 w))∨(∃ w:W6,t=some (.inr (.inl w))∧Good a b d w)∨∃ R:Array Int,t=some (.inr (.inr R.toList))∧CO a b d R
theorem Eh.of {a b:Nat} {d d2:Array Int} {t:Option Out} (hp:PermIn a b d d2) (h:Eh a b d2 t):Eh a b d t:=by
  rcases h with ⟨w,h1,h2⟩ | ⟨w,h1,h2⟩ | ⟨R,h1,h2⟩
  · exact .inl ⟨w,h1,h2.of hp⟩
  · exact .inr (.inl ⟨w,h1,h2.of hp⟩)
  · exact .inr (.inr ⟨R,h1,Go.Sort.permIn_trans _ _ _ _ _ hp h2.1,h2.2⟩)
theorem Eh.same {a b:Nat} {d:Array Int} {t:Option Out} {f:Out→Option Out} (h:Eh a b d t) (hf:∀ x,f x=some x):Eh a b d (t.bind f):=by
  rcases h with ⟨w,rfl,h2⟩ | ⟨w,rfl,h2⟩ | ⟨R,rfl,h2⟩
  · exact .inl ⟨w,by rw [Option.bind_some,hf],h2⟩
  · exact .inr (.inl ⟨w,by rw [Option.bind_some,hf],h2⟩)
  · exact .inr (.inr ⟨R,by rw [Option.bind_some,hf],h2⟩)
theorem KM {a b:Nat} {d:Array Int} {t:Option (F5⊕W6)} {f:F5⊕W6→Option Out} (h:(∃ w:F5,t=some (.inl w)∧Good a b d (G5 w))∨∃ w:W6,t=some (.inr w)∧Good a b d w) (hf1:∀ w,f (.inl w)=some (.inl w)) (hf2:∀ w,f (.inr w)=some (.inr (.inl w))):Eh a b d (t.bind f):=by
  rcases h with ⟨w,rfl,h2⟩ | ⟨w,rfl,h2⟩
  · exact .inl ⟨w,by rw [Option.bind_some,hf1],h2⟩
  · exact .inr (.inl ⟨w,by rw [Option.bind_some,hf2],h2⟩)
theorem c4 (hrec:rm rc k) (hn:1000<n) {a b pv lim:Nat} {l hint:Int} {wb wp:Bool} {d:Array Int} (hk:b - a≤k) (h1:a≤pv) (h2:pv<b) (hb:b≤d.size) (hs:d.size≤1000) (hl:lim≤1000) (hB:Below ltInt a b d) :
    Eh a b d (aV n rc (d.toList,(a:Int),l,(pv:Int),hint,(b:Int),(lim:Int),wb,wp)):=by
  have key:∀ (f:F5⊕W6→Option Out),(∀ w,f (.inl w)=some (.inl w))→(∀ w,f (.inr w)=some (.inr (.inl w)))→Eh a b d ((ak n rc (d.toList,(a:Int),l,(pv:Int),(b:Int),(lim:Int),wb,wp)).bind f):=fun f f1 f2=>KM (c5 hrec hn hk h1 h2 hb hs hl hB) f1 f2
  unfold aV
  dsimp only
  cases wb with
  | false =>
    rw [if_neg (by simp)]
    exact key _ (fun _=>rfl) (fun _=>rfl)
  | true =>
    rw [if_pos rfl]
    cases wp with
    | false =>
      rw [if_neg (by simp)]
      exact key _ (fun _=>rfl) (fun _=>rfl)
    | true =>
      rw [if_pos rfl]
      by_cases hh:(hint==1)=true
      · obtain ⟨q1,q2⟩:=Go.Sort.partialInsertionSort_holds (lt:=ltInt) H0 d a b (by omega) hb hB
        rw [if_pos hh,G0 (by omega) hb (by omega) (by omega) (by omega),Option.bind_some]
        dsimp only
        cases hp:(Go.Sort.partialInsertionSort ltInt d a b).2 with
        | true =>
          rw [if_pos rfl]
          exact .inr (.inr ⟨_,rfl,q1,q2 hp⟩)
        | false =>
          rw [if_neg (by simp)]
          exact (KM (c5 hrec hn hk h1 h2 (by rw [q1.1]; exact hb) (by rw [q1.1]; exact hs) hl (hB.perm hb q1)) (fun _=>rfl) (fun _=>rfl)).of q1
      · rw [if_neg hh]
        exact key _ (fun _=>rfl) (fun _=>rfl)
theorem c3 (hrec:rm rc k) (hn:1000<n) {a b pv lim:Nat} {l hint:Int} {wb wp:Bool} {d:Array Int} (hk:b - a≤k) (h1:a≤pv) (h2:pv<b) (hb:b≤d.size) (hs:d.size≤1000) (hl:lim≤1000) (hB:Below ltInt a b d) :
    Eh a b d (aW n rc (d.toList,(a:Int),l,(pv:Int),hint,(b:Int),(lim:Int),wb,wp)):=by
  unfold aW
  dsimp only
  by_cases h:(hint==2)=true
  · obtain ⟨R,e,hp⟩:=Fh (n:=n) (a:=a) (b:=b) (d:=d) (by omega) hb (by omega) (by omega)
    rw [if_pos h,e,Option.bind_some,lU (by omega) (by omega),mc (a:=pv) (b:=a) (by omega) (by omega),mc (a:=b - 1) (b:=pv - a) (by omega) (by omega)]
    exact ((c4 hrec hn hk (by omega) (by omega) (by rw [hp.1]; exact hb) (by rw [hp.1]; exact hs) hl (hB.perm hb hp)).same (fun x=>by rcases x with x | x | x <;> rfl)).of hp
  · rw [if_neg h]
    exact (c4 hrec hn hk h1 h2 hb hs hl hB).same (fun x=>by rcases x with x | x | x <;> rfl)
theorem c2 (hrec:rm rc k) (hn:1000<n) {a b lim:Nat} {l:Int} {wb wp:Bool} {d:Array Int} (hab:a<b) (hk:b - a≤k) (hb:b≤d.size) (hs:d.size≤1000) (hl:lim≤1000) (hl1:1≤lim) (hB:Below ltInt a b d) :
    Eh a b d (bH n rc (d.toList,(a:Int),l,(b:Int),(lim:Int),wb,wp)):=by
  unfold bH
  dsimp only
  cases wb with
  | false =>
    obtain ⟨R,e,hp⟩:=G4 (n:=n) (a:=a) (b:=b) (d:=d) (by omega) hb hs (by omega)
    have hb2:b≤R.size:=by rw [hp.1]; exact hb
    have hs2:R.size≤1000:=by rw [hp.1]; exact hs
    obtain ⟨pv,h,s,e2,p1,p2⟩:=zM (n:=n) (a:=a) (b:=b) (d:=R) hab hb2 (by omega)
    rw [if_pos (c:=(!false)=true) rfl,e,Option.bind_some,e2,Option.bind_some,lU (by omega) hl1]
    exact ((c3 hrec hn hk p1 p2 hb2 hs2 (by omega) (hB.perm hb hp)).same (fun x=>by rcases x with x | x | x <;> rfl)).of hp
  | true =>
    obtain ⟨pv,h,s,e2,p1,p2⟩:=zM (n:=n) (a:=a) (b:=b) (d:=d) hab hb (by omega)
    rw [if_neg (by simp),e2,Option.bind_some]
    exact (c3 hrec hn hk p1 p2 hb hs hl hB).same (fun x=>by rcases x with x | x | x <;> rfl)
theorem l1 (hrec:rm rc k) (hn:1000<n) {a b lim:Nat} {wb wp:Bool} {d:Array Int} (hab:a≤b) (hk:b - a≤k) (hb:b≤d.size) (hs:d.size≤1000) (hl:lim≤1000) (hB:Below ltInt a b d) :
    (∃ w:W6,aX n rc (d.toList,(a:Int),(b:Int),(lim:Int),wb,wp)=some (.inl w)∧Good a b d w)∨∃ R:Array Int,aX n rc (d.toList,(a:Int),(b:Int),(lim:Int),wb,wp)=some (.inr R.toList)∧CO a b d R:=by
  unfold aX
  dsimp only
  rw [mc (a:=b) (b:=a) (by omega) hab]
  by_cases h:b - a≤12
  · rw [if_pos (c:=decide (((b - a:Nat):Int)≤12)=true) (by simp; omega),GY hab hb (by omega) (by omega)]
    exact .inr ⟨_,rfl,Go.Sort.insertionSort_holds H0 d a b hab hb⟩
  · rw [if_neg (c:=decide (((b - a:Nat):Int)≤12)=true) (by simp; omega)]
    by_cases h0:lim=0
    · rw [if_pos (c:=((lim:Int)==0)=true) (by simp [h0]),Fg (by omega) hb (by omega) (by omega)]
      exact .inr ⟨_,rfl,Go.Sort.heapSort_holds H0 d a b hab hb⟩
    · rw [if_neg (c:=((lim:Int)==0)=true) (by simp; omega)]
      rcases c2 (a:=a) (b:=b) (lim:=lim) (d:=d) (l:=((b - a:Nat):Int)) (wb:=wb) (wp:=wp) hrec hn (by omega) hk hb hs hl (by omega) hB with ⟨w,e,hg⟩ | ⟨w,e,hg⟩ | ⟨R,e,hg⟩
      · rw [e]
        exact .inl ⟨_,rfl,hg⟩
      · rw [e]
        exact .inl ⟨_,rfl,hg⟩
      · rw [e]
        exact .inr ⟨R,rfl,hg⟩
theorem rounds (hrec:rm rc k) (hn:1000<n):∀ (m a b lim:Nat) (wb wp:Bool) (d:Array Int),a≤b→b - a≤k→b - a<m→b≤d.size→d.size≤1000→lim≤1000→Below ltInt a b d →
    ∃ R:Array Int,iter (fun s=>aX n rc s) m (d.toList,(a:Int),(b:Int),(lim:Int),wb,wp)=some R.toList∧CO a b d R
  | 0,_,_,_,_,_,_,_,_,h,_,_,_,_=>by omega
  | m + 1,a,b,lim,wb,wp,d,hab,hk,hm,hb,hs,hl,hB=>by
    rw [aZ]
    rcases l1 (a:=a) (b:=b) (lim:=lim) (d:=d) (wb:=wb) (wp:=wp) hrec hn hab hk hb hs hl hB with ⟨w,e,L,a',b',lim',wb',wp',rfl,g1,g2,g3,g4,g5,g6,g7⟩ | ⟨R,e,hg⟩
    · rw [e]
      obtain ⟨R,r1,r2⟩:=rounds hrec hn m a' b' lim' wb' wp' L g1 (by omega) (by omega) g3 (by omega) g5 g6
      exact ⟨R,r1,g7 R r2⟩
    · rw [e]
      exact ⟨R,rfl,hg⟩
end
theorem Ei:∀ (k n:Nat),1001 + k≤n→rm (aH n) k
  | 0,_,_=>fun a b lim d h=>by omega
  | k + 1,0,h=>by omega
  | k + 1,n + 1,hn=>fun a b lim d hk hab hb hs hl hB=>by
    obtain ⟨R,r1,r2⟩:=rounds (n:=n) (Ei k n (by omega)) (by omega) n a b lim true true d hab (by omega) (by omega) hb hs hl hB
    refine ⟨R,?_,r2⟩
    unfold aH
    rw [r1]
    rfl

/-! ### The sorted list -/
theorem uG (x:Int):∀ l:List Int,(z3 x l).Perm (x::l)
  | []=>List.Perm.refl _
  | y::l=>by
    unfold z3
    split
    · exact List.Perm.refl _
    · exact ((uG x l).cons y).trans (List.Perm.swap x y l)
theorem isort_perm:∀ l:List Int,(ji l).Perm l
  | []=>List.Perm.refl _
  | x::l=>(uG x _).trans ((isort_perm l).cons x)
theorem uH (x:Int):∀ l:List Int,l.Pairwise (fun a b=>a≤b)→(z3 x l).Pairwise (fun a b=>a≤b)
  | [],_=>by simp [z3]
  | y::l,h=>by
    unfold z3
    have hy:=List.pairwise_cons.1 h
    split
    · rename_i hc
      have hc:x≤y:=by simpa using hc
      refine List.pairwise_cons.2 ⟨fun z hz=>?_,h⟩
      rcases List.mem_cons.1 hz with rfl | hz
      · exact hc
      · exact Int.le_trans hc (hy.1 z hz)
    · rename_i hc
      have hc:¬ x≤y:=by simpa using hc
      refine List.pairwise_cons.2 ⟨fun z hz=>?_,uH x l hy.2⟩
      rcases List.mem_cons.1 ((uG x l).mem_iff.1 hz) with rfl | hz
      · omega
      · exact hy.1 z hz
theorem isort_sorted:∀ l:List Int,(ji l).Pairwise (fun a b=>a≤b)
  | []=>List.Pairwise.nil
  | x::l=>uH x _ (isort_sorted l)
theorem m5:∀ {l l':List Int},l.Pairwise (fun a b=>a≤b)→l'.Pairwise (fun a b=>a≤b)→l.Perm l'→l=l'
  | [],l',_,_,h=>(List.nil_perm.1 h).symm
  | x::l,[],_,_,h=>absurd (List.perm_nil.1 h) (by simp)
  | x::l,y::l',h1,h2,h=>by
    have a1:=List.pairwise_cons.1 h1
    have a2:=List.pairwise_cons.1 h2
    have e:x=y:=by
      have m1:x∈y::l':=h.mem_iff.1 List.mem_cons_self
      have m2:y∈x::l:=h.mem_iff.2 List.mem_cons_self
      rcases List.mem_cons.1 m1 with e | m1
      · exact e
      · rcases List.mem_cons.1 m2 with e | m2
        · exact e.symm
        · have:=a1.1 y m2
          have:=a2.1 x m1
          omega
    subst e
    rw [m5 a1.2 a2.2 ((List.perm_cons x).1 h)]
theorem sort_ok {n:Nat} {l:List Int} (hl:l.length≤1000) (hn:3000≤n):cN n l=some (ji l):=by
  obtain ⟨y,e,hy⟩:=HZ (n:=n) (l:=l.length) hl
  unfold cN
  rw [e,Option.bind_some]
  obtain ⟨R,e2,hp,hs⟩:=Ei (l.length + 1) n (by omega) 0 l.length y l.toArray (by omega) (by omega) (by simp) (by simpa using hl) (by omega) (.inl rfl)
  have e3:aH n 0 (l.length:Int) (y:Int) l=some R.toList:=e2
  rw [e3,Option.bind_some]
  have hsz:R.size=l.length:=by rw [hp.1]; simp
  have p1:R.toList.Perm l:=by
    have:=hp.2.2
    rw [← hsz] at this
    have e4:(R.extract 0 R.size).toList=R.toList:=by simp
    rw [e4] at this
    refine this.trans ?_
    rw [hsz]
    simp
  have s1:R.toList.Pairwise (fun a b=>a≤b):=by
    rw [List.pairwise_iff_getElem]
    intro i j hi hj hij
    have hi':i<R.size:=by simpa using hi
    have hj':j<R.size:=by simpa using hj
    have:=hs i j (Nat.zero_le _) hij (by omega)
    rw [getElem!_pos R i hi',getElem!_pos R j hj'] at this
    simp only [ltInt,decide_eq_false_iff_not] at this
    simp only [Array.getElem_toList]
    omega
  rw [m5 s1 (isort_sorted l) (p1.trans (isort_perm l).symm)]
theorem isort_of_perm {l l':List Int} (h:l.Perm l'):ji l=ji l':=m5 (isort_sorted l) (isort_sorted l') ((isort_perm l).trans (h.trans (isort_perm l').symm))
theorem isort_len (l:List Int):(ji l).length=l.length:=(isort_perm l).length_eq
end U
end Go.Proofs.Ytcckeabholabcaa
