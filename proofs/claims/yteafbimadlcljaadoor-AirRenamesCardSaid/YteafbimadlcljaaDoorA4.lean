/- Worklists come to an end: what each register's sets weigh -/
import Derived.Test.YteafbimadlcljaaDoorA3
namespace Go.Proofs.YteafbimadlcljaaDoor
open Go A

theorem T.matchO {α β:Type} {x:Option α} {a:Option β} {f:α→Option β} {Q:β→Prop} (h1:x=none→T a Q) (h2:∀ z,x=some z→T (f z) Q):T (matchO x a f) Q:=by
  cases x with
  | none=>exact h1 rfl
  | some z=>exact h2 z rfl

theorem v0 {p q:Nat→Bool}:∀ (l:List Nat),(∀ i,p i=true→q i=true)→(∃ j∈l,q j=true∧p j=false)→l.countP p<l.countP q
  | [],_,h=>by obtain ⟨j,hj,_⟩:=h; cases hj
  | x::l,h,hx=>by
    have le:l.countP p≤l.countP q:=List.countP_mono_left (fun i _=>h i)
    rw [List.countP_cons,List.countP_cons]
    obtain ⟨j,hj,h1,h2⟩:=hx
    rcases List.mem_cons.1 hj with rfl | hj
    · rw [h1,h2]
      simp
      omega
    · have:=v0 l h ⟨j,hj,h1,h2⟩
      have:(if p x=true then 1 else 0)≤(if q x=true then 1 else 0):=by
        cases hp:p x with
        | false=>simp
        | true=>rw [h x hp]; simp
      omega
/-- How many bits are set. -/
def pc (b:W):Nat:=(List.range 64).countP (fun i=>b.getLsbD i)
theorem AE (b:W):pc b≤64:=by
  have:=List.countP_le_length (p:=fun i=>b.getLsbD i) (l:=List.range 64)
  rwa [List.length_range] at this
theorem Ew {a b:W} (h:∀ i,a.getLsbD i=true→b.getLsbD i=true) (hne:a≠b):pc a<pc b:=by
  refine v0 _ h ?_
  by_cases hx:∃ j∈List.range 64,b.getLsbD j=true∧a.getLsbD j=false
  · exact hx
  · exfalso
    apply hne
    apply BitVec.eq_of_getLsbD_eq
    intro i hi
    cases ha:a.getLsbD i with
    | true=>exact (h i ha).symm
    | false =>
      cases hb:b.getLsbD i with
      | false=>rfl
      | true=>exact (hx ⟨i,List.mem_range.2 hi,hb,ha⟩).elim
theorem CX {a b:W} (h:a &&& b≠a):pc (a &&& b)<pc a:=Ew (fun i hi=>by rw [BitVec.getLsbD_and] at hi; simp at hi; exact hi.1) h
theorem Ey {a b:W} (h:a ||| b≠a):pc a<pc (a ||| b):=Ew (fun i hi=>by rw [BitVec.getLsbD_or,hi]; rfl) (fun e=>h e.symm)
theorem r6 {α:Type} (f:α→Nat):∀ (l:List α) (k:Nat) (h:k<l.length) (x:α),((l.set k x).map f).sum + f l[k]=(l.map f).sum + f x
  | a::l,0,_,x=>by simp; omega
  | a::l,k + 1,h,x=>by
    have:=r6 f l k (by simpa using h) x
    simp only [List.set_cons_succ,List.map_cons,List.sum_cons,List.getElem_cons_succ]
    omega
theorem xf {α:Type} (f:α→Nat) (b:Nat) (h:∀ x,f x≤b):∀ l:List α,(l.map f).sum≤b * l.length
  | []=>by simp
  | a::l=>by
    have:=xf f b h l
    have:=h a
    simp only [List.map_cons,List.sum_cons,List.length_cons]
    rw [Nat.mul_add]
    omega

/-! ### Cells -/
def Cs (R:Nat) (cs:List (Option W)):List (Option (List Int)):=cs.map (Option.map (sw R))
theorem iJ {R:Nat} {cs:List (Option W)} {k:Nat} (h:k<cs.length):aH (Cs R cs) (k:Int)=some (cs[k].map (sw R)):=by
  rw [ko]
  unfold Cs
  rw [List.getElem?_map,List.getElem?_eq_getElem h]
  rfl
theorem gI {R:Nat} {cs:List (Option W)} (k:Nat) (b:W):(Cs R cs).set ((k:Int)).toNat (some (sw R b))=Cs R (cs.set k (some b)):=by
  unfold Cs
  rw [Int.toNat_natCast,List.map_set]
  rfl
def wt:Option W→Nat
  | none=>66
  | some b=>pc b
theorem Ez (x:Option W):wt x≤66:=by
  cases x with
  | none=>exact Nat.le_refl _
  | some b=>have:=AE b; show pc b≤66; omega
def Ns (ws:List Nat):List Int:=ws.map (fun (k:Nat)=>((k:Nat):Int))
theorem eK (ws:List Nat):(Ns ws).length=ws.length:=List.length_map ..
/-- The worklist's steps are there, and have been come to. -/
def Wk (cs:List (Option W)) (ws:List Nat):Prop:=∀ k∈ws,∃ b,cs[k]?=some (some b)
def mW (cs:List (Option W)) (ws:List Nat):Nat:=3 * (cs.map wt).sum + ws.length
theorem Wk.set {cs:List (Option W)} {ws:List Nat} (h:Wk cs ws) (k:Nat) (b:W):Wk (cs.set k (some b)) ws:=fun j hj=>by
  obtain ⟨c,hc⟩:=h j hj
  by_cases e:k=j
  · subst e
    exact ⟨b,by rw [List.getElem?_set_self (List.getElem?_eq_some_iff.1 hc).1]⟩
  · exact ⟨c,by rw [List.getElem?_set_ne e]; exact hc⟩
theorem Wk.push {cs:List (Option W)} {ws:List Nat} (h:Wk cs ws) {k:Nat} {b:W} (hk:k<cs.length):Wk (cs.set k (some b)) (ws++[k]):=fun j hj=>by
  rcases List.mem_append.1 hj with hj | hj
  · exact h.set k b j hj
  · rw [List.mem_singleton.1 hj]
    exact ⟨b,by rw [List.getElem?_set_self hk]⟩
theorem CY {n:Nat} {oA:List (Option (List Int))} {oB:List Int} {R:Nat} (h:R≠0) (b:W):dm n oA oB (sw R b)=some ():=by
  unfold dm
  rw [xe h]
  rfl
theorem AF {n:Nat} {oA:List (Option (List Int))} {oB:Nat} {oC:List Int} {R:Nat} (h:R≠0) (b:W):dp n oA oB oC (sw R b)=some ():=by
  unfold dp
  rw [xe h]
  rfl
theorem xg {m:Nat} (h:m≤10000000):Nat.ble (m * 8) 140737488355328=true:=Nat.ble_eq_true_of_le (by omega)
theorem o6 (ws:List Nat) (k:Nat):Ns ws++([(k:Int)]:List Int)=Ns (ws++[k]):=by
  unfold Ns
  rw [List.map_append]
  rfl

/-- What a step hands on to those behind it. -/
theorem Il {R N B:Nat} (hR:R≠0) (n:Nat) (hn:3≤n) (c:bh) (o:W) (nx:List Int) (hnx:AB N nx) (hB:B≤1000000) (cs:List (Option W)) (ws:List Nat) (hl:cs.length=N) (hw:Wk cs ws) (hm:mW cs ws≤B) :
    T (iter (fun s=>bO n c s) n (Cs R cs,Ns ws,sw R o,nx,(nx.length:Int),0)) (fun t=>∃ cs' ws',t=(Cs R cs',Ns ws')∧cs'.length=N∧Wk cs' ws'∧mW cs' ws'≤B):=by
  have h2:=hnx.1
  refine T.loop nx.length (fun i s=>∃ cs' ws',s=(Cs R cs',Ns ws',sw R o,nx,(nx.length:Int),(i:Int))∧cs'.length=N∧Wk cs' ws'∧mW cs' ws'≤B) _ (fun i s hi hs=>?_) ⟨cs,ws,rfl,hl,hw,hm⟩ (by omega)
  obtain ⟨cs',ws',rfl,hl,hw,hm⟩:=hs
  unfold bO
  refine T.ite (fun h=>?_) (fun h=>?_)
  · rw [decide_eq_true_eq] at h
    have hi':i<nx.length:=by simpa using h
    refine T.get i rfl hi' ?_
    have hk:=hnx.2 nx[i] (List.getElem_mem hi')
    obtain ⟨k,hkk⟩:∃ k:Nat,nx[i]=(k:Int):=⟨nx[i].toNat,by omega⟩
    rw [hkk] at hk ⊢
    have hkN:k<cs'.length:=by omega
    refine T.eqb (iJ hkN) ?_
    have hs:∀ b,mW (cs'.set k (some b)) ws' + 3 * wt cs'[k]=mW cs' ws' + 3 * pc b:=fun b=>by
      have:=r6 wt cs' k hkN (some b)
      unfold mW
      simp only [show wt (some b)=pc b from rfl] at this
      omega
    have hpush:∀ b,mW (cs'.set k (some b)) (ws'++[k])=mW (cs'.set k (some b)) ws' + 1:=fun b=>by
      unfold mW
      rw [List.length_append,List.length_singleton]
      omega
    have hlen:ws'.length≤mW cs' ws':=by unfold mW; omega
    have hidx:ac .i64 (i:Int) 1=((i + 1:Nat):Int):=ga i (by omega)
    refine T.matchO (fun e=>?_) (fun z e=>?_)
    · rw [Option.map_eq_none_iff] at e
      refine T.eqb (CY hR o) (T.grd (xg (by show (Ns ws').length + 1≤_; rw [eK]; omega)) (T.next ⟨hi',cs'.set k (some o),ws'++[k],?_,by simpa using hl,hw.push hkN,?_⟩))
      · rw [gI,o6,hidx]
      · have:=AE o
        rw [hpush]
        have:wt (none:Option W)=66:=rfl
        have h3:=hs o
        rw [e] at h3
        omega
    · rw [Option.map_eq_some_iff] at e
      obtain ⟨b,e,rfl⟩:=e
      refine T.grd (AD hR b) (T.eqb (CW hR n (by omega) _ _ _ b o) ?_)
      have h3:=hs (b &&& o)
      rw [e] at h3
      have h4:wt (some b)=pc b:=rfl
      refine T.ite (fun hc=>?_) (fun hc=>?_)
      · refine T.next ⟨hi',cs'.set k (some (b &&& o)),ws',?_,by simpa using hl,hw.set k _,?_⟩
        · rw [gI,hidx]
        · have hc:b &&& o=b:=by simpa using hc
          rw [hc] at h3 ⊢
          omega
      · have hc:b &&& o≠b:=by simpa using hc
        have:=CX hc
        refine T.grd (xg (by show (Ns ws').length + 1≤_; rw [eK]; omega)) (T.next ⟨hi',cs'.set k (some (b &&& o)),ws'++[k],?_,by simpa using hl,hw.push hkN,?_⟩)
        · rw [gI,o6,hidx]
        · rw [hpush]
          omega
  · rw [decide_eq_false_iff_not] at h
    exact T.fin ⟨cs',ws',rfl,hl,hw,hm⟩

end Go.Proofs.YteafbimadlcljaaDoor
