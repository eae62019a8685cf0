/- The event that an ask makes -/
import Derived.Test.YtnmmknnnggcijaaDoorG4
namespace Go.Proofs.YtnmmknnnggcijaaDoor
open Go A

theorem AN (n0:Nat) (l:List Int) (hl:l.length≤1000):∀ (xs pre:List Int) (a:Int) (n:Nat),l=pre++xs→((pre=[]∧a=-1)∨(pre.getLast?=some a∧0≤a))→xs.length<n →
    iter (fun s=>dn n0 l s) n (pre.length:Int)=some (if p9 a xs=true then .inl () else .inr ())
  | _,_,_,0,_,_,h=>by omega
  | [],pre,a,n + 1,h1,_,h2=>by
    rw [il]
    have:dn n0 l (pre.length:Int)=some (.inr (.inl ())):=by
      unfold dn
      rw [if_neg (by simp [h1])]
    rw [this]
    rfl
  | x::xs,pre,a,n + 1,h1,ha,h2=>by
    rw [il]
    have hx:i4 l (pre.length:Int)=some x:=by rw [jE,h1]; simp
    have hlen:pre.length<l.length:=by rw [h1]; simp
    have hs:dn n0 l (pre.length:Int)=if a<x then some (.inl ((pre++[x]).length:Int)) else some (.inr (.inr ())):=by
      unfold dn
      rw [if_pos (by simp; omega),hx]
      simp only [Option.bind_some]
      rw [yS _ (by omega)]
      rcases ha with ⟨rfl,rfl⟩ | ⟨hp,h0⟩
      · by_cases c:x<0
        · rw [if_pos (by simpa using c),if_neg (by omega)]
        · rw [if_neg (by simpa using c),if_neg (by simp),if_pos (by omega)]
          simp
      · have hne:pre≠[]:=by rintro rfl; simp at hp
        have hpl:0<pre.length:=List.length_pos_iff.2 hne
        have hg:i4 l (aE .i64 (pre.length:Int) 1)=some a:=by
          rw [DY _ (by omega) (by omega),jE,h1,List.getElem?_append_left (by omega)]
          rw [List.getLast?_eq_getElem?] at hp
          exact hp
        by_cases c:x<0
        · rw [if_pos (by simpa using c),if_neg (by omega)]
        · rw [if_neg (by simpa using c),if_pos (by simp; omega),hg]
          simp only [Option.bind_some]
          by_cases c2:a<x
          · rw [if_neg (by simp; omega),if_pos c2]; simp
          · rw [if_pos (by simp; omega),if_neg c2]
    rw [hs]
    by_cases c:a<x
    · rw [if_pos c]
      simp only
      rw [AN n0 l hl xs (pre++[x]) x n (by rw [h1]; simp) (.inr ⟨by simp,by rcases ha with ⟨_,rfl⟩ | ⟨_,h0⟩ <;> omega⟩) (by simp at h2; omega)]
      simp [p9,c]
    · rw [if_neg c]
      simp [p9,c]
theorem CS (n:Nat) (l:List Int) (hl:l.length≤1000) (hn:l.length<n):k0 n l=some (p9 (-1) l):=by
  unfold k0
  have:=AN n l hl l [] (-1) n rfl (.inl ⟨rfl,rfl⟩) hn
  rw [show (([]:List Int).length:Int)=0 from rfl] at this
  rw [this]
  cases p9 (-1) l <;> rfl
theorem Ab (n:Nat) (l:List Int) (at_:Int) (hl:l.length≤1000) (hn:l.length<n):jn n l at_=some (kY l at_):=by
  unfold jn
  rw [CS n l hl hn,Option.bind_some]
  exact ui l at_ hl
theorem D1 (n:Nat) (hn:100≤n) (h t pair:Int) (dA dD dW:List Int) (kd addr load st:Int) (aq rl:Bool) (pr su:Int) (hs:small (Event.mk h t kd addr load st aq rl pr su pair (Deps.mk dA dD dW))) (hok:xj (Event.mk h t kd addr load st aq rl pr su pair (Deps.mk dA dD dW))=true) :
    eJ n h t (pair,dA,dD,dW,kd,addr,load,st,aq,rl,pr,su)=some (h,t,pair,dA,dD,dW,kd,addr,load,st,aq,rl,pr,su,0):=by
  unfold eJ
  dsimp only
  rw [z7 n _ hs hn,hok]
  rfl
theorem D2 (n:Nat) (hn:100≤n) (h t pair:Int) (dA dD dW:List Int) (kd addr load st:Int) (aq rl:Bool) (pr su:Int) (hs:small (Event.mk h t kd addr load st aq rl pr su pair (Deps.mk dA (if nM kd=true then dD else []) dW))) (hok:xj (Event.mk h t kd addr load st aq rl pr su pair (Deps.mk dA (if nM kd=true then dD else []) dW))=true) :
    eK n h t (pair,dA,dD,dW,kd,addr,load,st,aq,rl,pr,su)=some (h,t,pair,dA,(if nM kd=true then dD else []),dW,kd,addr,load,st,aq,rl,pr,su,0):=by
  unfold eK
  dsimp only
  rw [kp,Option.bind_some]
  dsimp only
  cases hw:nM kd with
  | true =>
    rw [hw] at hs hok
    rw [if_neg (by decide),D1 n hn h t pair dA dD dW kd addr load st aq rl pr su hs hok]
    rfl
  | false =>
    rw [hw] at hs hok
    rw [if_pos (by decide),D1 n hn h t pair dA [] dW kd addr load st aq rl pr su hs hok]
    rfl
theorem D3 (n:Nat) (hn:100≤n) (h t found pair:Int) (dA dD dW:List Int) (kd addr st:Int) (aq rl:Bool) (pr su:Int) (hs:small (Event.mk h t kd addr (if ul kd=true then found else 0) st aq rl pr su pair (Deps.mk dA (if nM kd=true then dD else []) dW))) (hok:xj (Event.mk h t kd addr (if ul kd=true then found else 0) st aq rl pr su pair (Deps.mk dA (if nM kd=true then dD else []) dW))=true) :
    eM n h t found (pair,dA,dD,dW,kd,addr,st,aq,rl,pr,su)=some (h,t,pair,dA,(if nM kd=true then dD else []),dW,kd,addr,(if ul kd=true then found else 0),st,aq,rl,pr,su,0):=by
  unfold eM
  dsimp only
  rw [o7,Option.bind_some]
  dsimp only
  cases hw:ul kd with
  | true =>
    rw [hw] at hs hok
    rw [if_pos rfl,D2 n hn h t pair dA dD dW kd addr found st aq rl pr su hs hok]
    rfl
  | false =>
    rw [hw] at hs hok
    rw [if_neg (by decide),D2 n hn h t pair dA dD dW kd addr 0 st aq rl pr su hs hok]
    rfl
/-- The event, out of its parts. -/
def EU (h t found:Int) (a:Ask) (d:Deps) (kd pair st pr su:Int):Event :=
  match z8 kd with
  | true=>Event.mk h t kd a.Addr (if ul kd=true then found else 0) st a.Aq a.Rl pr su pair (Deps.mk d.Addr (if nM kd=true then d.Data else []) d.Way)
  | false=>Event.mk h t kd 0 (if ul kd=true then found else 0) st false false pr su pair (Deps.mk [] (if nM kd=true then [] else []) [])
def FZ (e:Event):Int×Int×Int×(List Int)×(List Int)×(List Int)×Int×Int×Int×Int×Bool×Bool×Int×Int×Int:=(e.Hart,e.At,e.Pair,e.Deps.Addr,e.Deps.Data,e.Deps.Way,e.Kind,e.Addr,e.Load,e.Store,e.Aq,e.Rl,e.Pred,e.Succ,0)
theorem Ac (n:Nat) (l:List Int) (h:l.length≤1000):b0 n l=some l:=by
  unfold b0
  rw [wc (CN (by omega))]
theorem Fi (n:Nat) (hn:100≤n) (h t found:Int) (a:Ask) (d:Deps) (kd pair st pr su:Int) (l1:d.Addr.length≤60) (l2:d.Data.length≤60) (l3:d.Way.length≤60) (hs:small (EU h t found a d kd pair st pr su)) (hok:xj (EU h t found a d kd pair st pr su)=true) :
    bj n h t a found d (pair,kd,st,pr,su)=some (FZ (EU h t found a d kd pair st pr su)):=by
  unfold bj
  dsimp only
  rw [xl,Option.bind_some]
  dsimp only
  unfold EU at hs hok ⊢
  cases hm:z8 kd with
  | true =>
    rw [hm] at hs hok
    dsimp only at hs hok
    have ho:m4 n d=some d:=by
      unfold m4
      rw [Ac n _ (by omega),Ac n _ (by omega),Ac n _ (by omega)]
      rfl
    rw [if_pos rfl,ho,Option.bind_some,D3 n hn h t found pair d.Addr d.Data d.Way kd a.Addr st a.Aq a.Rl pr su hs hok]
    rfl
  | false =>
    rw [hm] at hs hok
    dsimp only at hs hok
    rw [if_neg (by decide),D3 n hn h t found pair [] [] [] kd 0 st false false pr su hs hok]
    rfl
/-- What is stored, by the kind. -/
def F1 (kd value stored:Int):Int:=if kd=2∨kd=4 then value else if kd=5 then stored else 0
theorem HE (n:Nat) (hn:100≤n) (h t found pair:Int) (a:Ask) (d:Deps) (l1:d.Addr.length≤60) (l2:d.Data.length≤60) (l3:d.Way.length≤60) (stored:Int) (hkd:a.Kind=1∨a.Kind=2∨a.Kind=3∨a.Kind=4∨a.Kind=5∨a.Kind=6) (hamo:a.Kind=5→f_ n a.Op found a.Value=some (stored,0))
    (E:Event) (hE:E=EU h t found a d a.Kind (if a.Kind=4 then pair else 0) (F1 a.Kind a.Value stored) (if a.Kind=6 then a.Pred else 0) (if a.Kind=6 then a.Succ else 0)) (hs:small E) (hok:xj E=true):kM n h t a found pair d=some (E,0):=by
  subst hE
  unfold kM
  rcases hkd with hk | hk | hk | hk | hk | hk
  all_goals
    rw [hk] at hs hok ⊢
    have c:=Fi n hn h t found a d _ _ _ _ _ l1 l2 l3 hs hok
    simp only [F1,Int.reduceEq,if_true,if_false,or_true,true_or,or_self] at c ⊢
    simp only [Int.reduceBEq,Bool.false_eq_true,if_true,if_false]
  case inr.inr.inr.inr.inl =>
    rw [hamo hk,Option.bind_some,if_neg (by simp),c]
    rfl
  all_goals
    rw [c]
    rfl

end Go.Proofs.YtnmmknnnggcijaaDoor
