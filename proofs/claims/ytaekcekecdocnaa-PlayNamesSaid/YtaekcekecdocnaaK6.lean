/- Orders that are open; contracts; arguments read as data. Nothing is claimed here of the program. -/
import Derived.Test.YtaekcekecdocnaaK5
import Derived.Still
import Derived.WalkKit
import Derived.ProofKit
import Derived.OpenShut
import Derived.LoopNIn
import Derived.DataReads
import Derived.Carry
import Derived.WideKeyArgs
namespace Go.Proofs.Ytaekcekecdocnaa
namespace A
open Go
open Go.RowKit (Below)
theorem least {p:Nat→Prop}:∀ (n:Nat),p n→∃ m,p m∧∀ k,p k→m≤k:=by
  intro n
  induction n using Nat.strongRecOn with
  | _ n ih =>
    intro h
    by_cases hl:∃ k,k<n∧p k
    · obtain ⟨k,hk,hp⟩:=hl
      exact ih k hk hp
    · exact ⟨n,h,fun k hk=>Nat.le_of_not_lt fun hlt=>hl ⟨k,hlt,hk⟩⟩
open Classical in
noncomputable def lst (p:Nat→Prop):Nat:=if h:∃ m,p m∧∀ k,p k→m≤k then Classical.choose h else 0
theorem lst_spec {p:Nat→Prop} {n:Nat} (h:p n):p (lst p)∧lst p≤n:=by
  have hl:=least n h
  unfold lst
  rw [dif_pos hl]
  exact ⟨(Classical.choose_spec hl).1,(Classical.choose_spec hl).2 n h⟩
def LP (cfg:Cfg) (G:Gh) (pl:Pol) (c:Code) (K:Ex→St→Prop) (a:Act) (w:World) (n:Nat):Prop:=∃ S E,(ctxN cfg n).loop pl c S K∧SimM G pn E S w∧TR G E S.t a
theorem ctxN_P (cfg:Cfg):∀ n,(ctxN cfg n).P=cfg.P
  | 0=>rfl
  | _ + 1=>rfl
theorem loop_ok {cfg:Cfg} {N:Nat} (h:∀ m,m<N→CallOK (ctxN cfg m)∧LoopOK (ctxN cfg m)∧DrawOK (ctxN cfg m)):LoopOK (ctxN cfg N):=by
  intro pl c S K hl r hr G E a w Q hM ht hQ
  rw [ctxN_P]
  refine wpIn_loop (fun a w=>∃ n,n≤N∧LP cfg G pl c K a w n) (fun a w=>lst fun n=>n≤N∧LP cfg G pl c K a w n) ⟨N,Nat.le_refl _,S,E,hl,hM,ht⟩ (fun a1 w1 hI=>?_)
  obtain ⟨n0,hn0⟩:=hI
  have hsp:=(lst_spec (p:=fun n=>n≤N∧LP cfg G pl c K a1 w1 n) hn0).1
  generalize hmu:(lst fun n=>n≤N∧LP cfg G pl c K a1 w1 n)=mu
  rw [hmu] at hsp
  obtain ⟨hle,S1,E1,hl1,hM1,ht1⟩:=hsp
  cases mu with
  | zero=>exact False.elim hl1
  | succ m =>
    obtain ⟨h1,h2,h3⟩:=h m hle
    have hl2:acode (ctxN cfg m) pl c S1 fun e S'=>match e with
      | .nrm=>(ctxN cfg m).loop pl c S' K
      | .ex i=>K (.ex i) S'
      | .ret=>K .ret S':=(forceC_iff (C:=ctxN cfg m) (k:=fun C=>acode C pl c S1 fun e S'=>match e with
      | .nrm=>C.loop pl c S' K
      | .ex i=>K (.ex i) S'
      | .ret=>K .ret S')).1 hl1
    have hr':RF (ctxN cfg m) c r:=fun _=>hr (by cases N with | zero=>exact absurd hle (by omega) | succ N=>rfl)
    have:=acode_sound h1 h2 h3 c hl2 r hr' G E1 a1 w1 (Exit.then (fun a' w'=>(∃ n,n≤N∧LP cfg G pl c K a' w' n)∧(lst fun n=>n≤N∧LP cfg G pl c K a' w' n)<m + 1) Q) hM1 ht1 (fun e S' E' a' w' hk hS htr=>by
      cases e with
      | nrm =>
        have hp:m≤N∧LP cfg G pl c K a' w' m:=⟨Nat.le_of_succ_le hle,S',E',hk,hS,htr⟩
        exact ⟨⟨m,hp⟩,Nat.lt_succ_of_le (lst_spec (p:=fun n=>n≤N∧LP cfg G pl c K a' w' n) hp).2⟩
      | ex i=>exact hQ (.ex i) _ _ _ _ hk hS htr
      | ret=>exact hQ .ret _ _ _ _ hk hS htr)
    rw [ctxN_P] at this
    exact this
theorem ctxN_ok {cfg:Cfg} (hQ:∀ f args r,cfg.xq f args=some r→PureEq cfg.P f args r) (hX:∀ f args o K,cfg.xc f args o K→SCall cfg.P f args o K) (hN:NoNum cfg.P) (hA:∀ n,ApureDet (ctxN cfg n)) (hD:∀ n,CallOK (ctxN cfg n)→DrawOK (ctxN cfg n)):∀ n,CallOK (ctxN cfg n)∧LoopOK (ctxN cfg n)∧DrawOK (ctxN cfg n):=by
  intro n
  induction n using Nat.strongRecOn with
  | _ n ih =>
    have hC:CallOK (ctxN cfg n):=by
      cases n with
      | zero=>exact ⟨fun f args K h=>False.elim h,fun f args o K h=>False.elim h,fun id args o K h=>False.elim h⟩
      | succ n =>
        obtain ⟨h1,h2,h3⟩:=ih n (Nat.lt_succ_self n)
        have hN':NoNum (ctxN cfg n).P:=by rw [ctxN_P]; exact hN
        refine ⟨fun f args K h=>?_,fun f args o K h=>?_,fun id args o K h=>?_⟩
        · rw [ctxN_P]
          have h:(match cfg.xq f args with | some r=>K r | none=>apure (ctxN cfg n) f args K):=h
          split at h
          · rename_i r hr
            exact ⟨r,hQ _ _ _ hr,h⟩
          · have:=apure_sound h1 h2 h3 hN' (hA n) h
            rw [ctxN_P] at this
            exact this
        · rw [ctxN_P]
          have h:(match cfg.xs f with | true=>cfg.xc f args o K | false=>astore (ctxN cfg n) f args o K):=h
          split at h
          · exact hX _ _ _ _ h
          · have:=astore_sound h1 h2 h3 hN' h
            rw [ctxN_P] at this
            exact this
        · rw [ctxN_P]
          have h:forceC (ctxN cfg n) fun C=>yround C id args o K:=h
          rw [forceC_iff] at h
          have:=yround_sound h1 h2 h3 h
          rw [ctxN_P] at this
          exact this
    exact ⟨hC,loop_ok ih,hD n hC⟩
def Det {α:Type} (X:(α→Prop)→Prop):Prop:=∀ K,X K→∃ r,K r∧∀ K',K' r→X K'
def Det2 {α β:Type} (X:(α→β→Prop)→Prop):Prop:=∀ K,X K→∃ a b,K a b∧∀ K',K' a b→X K'
def Det3 {α β γ:Type} (X:(α→β→γ→Prop)→Prop):Prop:=∀ K,X K→∃ a b c,K a b c∧∀ K',K' a b c→X K'
theorem Det.fail {α:Type}:Det (fun _:α→Prop=>False):=fun _ h=>h.elim
theorem Det.failN {α:Type} {n:Nat}:Det (fun _:α→Prop=>Fail n):=fun _ h=>False.elim h
theorem Det2.failN {α β:Type} {n:Nat}:Det2 (fun _:α→β→Prop=>Fail n):=fun _ h=>False.elim h
theorem Det3.failN {α β γ:Type} {n:Nat}:Det3 (fun _:α→β→γ→Prop=>Fail n):=fun _ h=>False.elim h
theorem Det.ret {α:Type} (a:α):Det (fun K=>K a):=fun _ h=>⟨a,h,fun _ h=>h⟩
theorem Det2.ret {α β:Type} (a:α) (b:β):Det2 (fun K=>K a b):=fun _ h=>⟨a,b,h,fun _ h=>h⟩
theorem Det3.ret {α β γ:Type} (a:α) (b:β) (c:γ):Det3 (fun K=>K a b c):=fun _ h=>⟨a,b,c,h,fun _ h=>h⟩
theorem Det.chk {α:Type} {b:Bool} {X:(α→Prop)→Prop} (h:Det X):Det (fun K=>Chk b (X K)):=fun K hk=>by
  obtain ⟨hb,hx⟩:=Chk_elim hk
  obtain ⟨r,h1,h2⟩:=h K hx
  exact ⟨r,h1,fun K' hk'=>Chk_intro hb (h2 K' hk')⟩
theorem Det2.chk {α β:Type} {b:Bool} {X:(α→β→Prop)→Prop} (h:Det2 X):Det2 (fun K=>Chk b (X K)):=fun K hk=>by
  obtain ⟨hb,hx⟩:=Chk_elim hk
  obtain ⟨r,s,h1,h2⟩:=h K hx
  exact ⟨r,s,h1,fun K' hk'=>Chk_intro hb (h2 K' hk')⟩
theorem Det3.chk {α β γ:Type} {b:Bool} {X:(α→β→γ→Prop)→Prop} (h:Det3 X):Det3 (fun K=>Chk b (X K)):=fun K hk=>by
  obtain ⟨hb,hx⟩:=Chk_elim hk
  obtain ⟨r,s,t,h1,h2⟩:=h K hx
  exact ⟨r,s,t,h1,fun K' hk'=>Chk_intro hb (h2 K' hk')⟩
theorem Det.fork {α:Type} {b:Bool} {X Y:(α→Prop)→Prop} (h:Det X) (k:Det Y):Det (fun K=>Fork b (X K) (Y K)):=by
  cases b
  · exact k
  · exact h
theorem Det2.fork {α β:Type} {b:Bool} {X Y:(α→β→Prop)→Prop} (h:Det2 X) (k:Det2 Y):Det2 (fun K=>Fork b (X K) (Y K)):=by
  cases b
  · exact k
  · exact h
theorem Det.gsel {α:Type} {b:Option Bool} {w:Bool} {X Y:(α→Prop)→Prop} (h:Det X) (k:Det Y):Det (fun K=>gsel b w (X K) (Y K)):=by
  unfold A.gsel
  split
  · exact h
  · exact h
  · exact k
theorem Det.bind {α β:Type} {X:(α→Prop)→Prop} {Y:α→(β→Prop)→Prop} (h:Det X) (k:∀ a,Det (Y a)):Det (fun K=>X fun a=>Y a K):=fun K hk=>by
  obtain ⟨r,h1,h2⟩:=h _ hk
  obtain ⟨s,h3,h4⟩:=k r K h1
  exact ⟨s,h3,fun K' hk'=>h2 _ (h4 K' hk')⟩
theorem Det.bind2 {α β γ:Type} {X:(α→Prop)→Prop} {Y:α→(β→γ→Prop)→Prop} (h:Det X) (k:∀ a,Det2 (Y a)):Det2 (fun K=>X fun a=>Y a K):=fun K hk=>by
  obtain ⟨r,h1,h2⟩:=h _ hk
  obtain ⟨s,t,h3,h4⟩:=k r K h1
  exact ⟨s,t,h3,fun K' hk'=>h2 _ (h4 K' hk')⟩
theorem Det2.bind {α β γ:Type} {X:(α→β→Prop)→Prop} {Y:α→β→(γ→Prop)→Prop} (h:Det2 X) (k:∀ a b,Det (Y a b)):Det (fun K=>X fun a b=>Y a b K):=fun K hk=>by
  obtain ⟨r,s,h1,h2⟩:=h _ hk
  obtain ⟨t,h3,h4⟩:=k r s K h1
  exact ⟨t,h3,fun K' hk'=>h2 _ (h4 K' hk')⟩
theorem Det2.bind2 {α β γ δ:Type} {X:(α→β→Prop)→Prop} {Y:α→β→(γ→δ→Prop)→Prop} (h:Det2 X) (k:∀ a b,Det2 (Y a b)):Det2 (fun K=>X fun a b=>Y a b K):=fun K hk=>by
  obtain ⟨r,s,h1,h2⟩:=h _ hk
  obtain ⟨t,u,h3,h4⟩:=k r s K h1
  exact ⟨t,u,h3,fun K' hk'=>h2 _ (h4 K' hk')⟩
theorem Det3.bind {α β γ δ:Type} {X:(α→β→γ→Prop)→Prop} {Y:α→β→γ→(δ→Prop)→Prop} (h:Det3 X) (k:∀ a b c,Det (Y a b c)):Det (fun K=>X fun a b c=>Y a b c K):=fun K hk=>by
  obtain ⟨r,s,q,h1,h2⟩:=h _ hk
  obtain ⟨t,h3,h4⟩:=k r s q K h1
  exact ⟨t,h3,fun K' hk'=>h2 _ (h4 K' hk')⟩
theorem dF {α:Type} {n:Nat}:Det (fun _:α→Prop=>Fail n):=Det.failN
theorem dF2 {α β:Type} {n:Nat}:Det2 (fun _:α→β→Prop=>Fail n):=Det2.failN
theorem dF3 {α β γ:Type} {n:Nat}:Det3 (fun _:α→β→γ→Prop=>Fail n):=Det3.failN
theorem dR {α:Type} (a:α):Det (fun K=>K a):=Det.ret a
theorem dR2 {α β:Type} (a:α) (b:β):Det2 (fun K=>K a b):=Det2.ret a b
theorem dR3 {α β γ:Type} (a:α) (b:β) (c:γ):Det3 (fun K=>K a b c):=Det3.ret a b c
theorem dC {α:Type} {b:Bool} {X:(α→Prop)→Prop} (h:Det X):Det (fun K=>Chk b (X K)):=Det.chk h
theorem dC2 {α β:Type} {b:Bool} {X:(α→β→Prop)→Prop} (h:Det2 X):Det2 (fun K=>Chk b (X K)):=Det2.chk h
theorem dC3 {α β γ:Type} {b:Bool} {X:(α→β→γ→Prop)→Prop} (h:Det3 X):Det3 (fun K=>Chk b (X K)):=Det3.chk h
theorem db {α β:Type} {X:(α→Prop)→Prop} {Y:α→(β→Prop)→Prop} (h:Det X) (k:∀ a,Det (Y a)):Det (fun K=>X fun a=>Y a K):=Det.bind h k
theorem dbb {α β γ:Type} {X:(α→Prop)→Prop} {Y:α→(β→γ→Prop)→Prop} (h:Det X) (k:∀ a,Det2 (Y a)):Det2 (fun K=>X fun a=>Y a K):=Det.bind2 h k
theorem dd {α β γ:Type} {X:(α→β→Prop)→Prop} {Y:α→β→(γ→Prop)→Prop} (h:Det2 X) (k:∀ a b,Det (Y a b)):Det (fun K=>X fun a b=>Y a b K):=Det2.bind h k
theorem ddd {α β γ δ:Type} {X:(α→β→Prop)→Prop} {Y:α→β→(γ→δ→Prop)→Prop} (h:Det2 X) (k:∀ a b,Det2 (Y a b)):Det2 (fun K=>X fun a b=>Y a b K):=Det2.bind2 h k
theorem dt {α β γ δ:Type} {X:(α→β→γ→Prop)→Prop} {Y:α→β→γ→(δ→Prop)→Prop} (h:Det3 X) (k:∀ a b c,Det (Y a b c)):Det (fun K=>X fun a b c=>Y a b c K):=Det3.bind h k
theorem Det.of_iff {α:Type} {X:(α→Prop)→Prop} {a:α} (h:∀ K:α→Prop,X K↔K a):Det X:=fun K hk=>⟨a,(h K).1 hk,fun K' hk'=>(h K').2 hk'⟩
theorem forceA_det {a:AV}:Det (forceA a):=.of_iff fun _=>forceA_iff
theorem forceL_det {xs:List AV}:Det (forceL xs):=.of_iff fun _=>forceL_iff
theorem forceAL_det {xs:List AV}:Det (forceAL xs):=.of_iff fun _=>forceAL_iff
theorem forceLoc_det {xs:List (Nat×List AV)}:Det (forceLoc xs):=.of_iff fun _=>forceLoc_iff
theorem forceO_det {xs:List Ob}:Det (forceO xs):=.of_iff fun _=>forceO_iff
theorem nthK_det {xs:List AV} {n:Nat}:Det (nthK xs n):=fun K h=>by
  obtain ⟨a,h1,h2⟩:=nthK_iff.1 h
  exact ⟨a,h2,fun K' h3=>nthK_iff.2 ⟨a,h1,h3⟩⟩
theorem setK_det {xs:List AV} {n:Nat} {v:AV}:Det (setK xs n v):=.of_iff fun _=>setK_iff
theorem putK_det {dst:Option Tmp} {a:AV} {S:St}:Det (putK dst a S):=.of_iff fun _=>putK_iff
theorem killL_det {k:Key} {xs:List AV}:Det (killL k xs):=.of_iff fun _=>killL_iff
theorem killLoc_det {k:Key} {xs:List (Nat×List AV)}:Det (killLoc k xs):=.of_iff fun _=>killLoc_iff
theorem killObs_det {k:Key} {xs:List Ob}:Det (killObs k xs):=.of_iff fun _=>killObs_iff
theorem getK_det {S:St} {x:Operand}:Det (getK S x):=by
  unfold getK
  repeat' first
    |exact dF|exact nthK_det|exact forceA_det|exact dR _|refine Det.bind forceA_det (fun _=>?_)|split
theorem getsK_det {S:St}:∀ {xs:List Operand},Det (getsK S xs)
  | []=>Det.ret _
  | x::xs=>by
    show Det (fun K=>getK S x fun a=>getsK S xs fun as=>K (a::as))
    exact Det.bind getK_det (fun a=>Det.bind getsK_det (fun as=>Det.ret (a::as)))
theorem boolAt_det {d:Nat} {S:St}:Det2 (boolAt d S):=by
  unfold boolAt
  refine Det.bind2 nthK_det (fun a=>?_)
  split
  · exact Det2.fork (Det.bind2 setK_det (fun _=>Det2.ret _ _)) (Det.bind2 setK_det (fun _=>Det2.ret _ _))
  · exact Det2.failN
theorem boolOf_det {c:Operand} {S:St}:Det2 (boolOf c S):=by
  unfold boolOf
  split
  · exact boolAt_det
  · exact Det2.fork (Det2.ret _ _) (Det2.ret _ _)
  · exact Det2.failN
structure CDet (C:Ctx):Prop where
  pcall:∀ f args,Det (C.pcall f args)
  scall:∀ f args o,Det2 (C.scall f args o)
  loop:∀ pl c S,Det2 (C.loop pl c S)
  ycall:∀ id args o,Det2 (C.ycall id args o)
theorem cellsK_det {a:AV}:Det (cellsK a):=by
  unfold cellsK
  repeat' first
    |exact dF|exact dF2|exact dF3|exact dR _|exact dR2 _ _|exact dR3 _ _ _|refine dC ?_|refine dC2 ?_|refine dC3 ?_|split
theorem rowK_det {S:St} {key:Key} {i:Nat}:Det (rowK S key i):=by
  unfold rowK
  repeat' first
    |exact dF|exact dF2|exact dF3|exact dR _|exact dR2 _ _|exact dR3 _ _ _|refine dC ?_|refine dC2 ?_|refine dC3 ?_|split
theorem atK_det {S:St} {a:AV}:Det2 (atK S a):=by
  unfold atK
  repeat' first
    |exact dF|exact dF2|exact dF3|exact dR _|exact dR2 _ _|exact dR3 _ _ _|refine dC ?_|refine dC2 ?_|refine dC3 ?_|exact rowK_det|refine db rowK_det fun _=>?_
    |refine dbb rowK_det fun _=>?_|split
theorem partK_det {P:Program} {t:TypeId} {row:List AV} {j:Nat}:Det (partK P t row j):=by
  unfold partK
  repeat' first
    |exact dF|exact dF2|exact dF3|exact dR _|exact dR2 _ _|exact dR3 _ _ _|refine dC ?_|refine dC2 ?_|refine dC3 ?_|exact forceL_det|refine db forceL_det fun _=>?_
    |refine dbb forceL_det fun _=>?_|split
theorem storeK_det {S:St} {a:AV} {cs:List AV}:Det (storeK S a cs):=by
  unfold storeK
  repeat' first
    |exact dF|exact dF2|exact dF3|exact dR _|exact dR2 _ _|exact dR3 _ _ _|refine dC ?_|refine dC2 ?_|refine dC3 ?_|exact forceL_det|refine db forceL_det fun _=>?_
    |refine dbb forceL_det fun _=>?_|exact forceLoc_det|refine db forceLoc_det fun _=>?_|refine dbb forceLoc_det fun _=>?_|exact forceO_det|refine db forceO_det fun _=>?_
    |refine dbb forceO_det fun _=>?_|split
theorem aBinC_det {op:BinOp} {x y:Value}:Det (aBinC op x y):=by
  unfold aBinC
  repeat' first
    |exact dF|exact dF2|exact dF3|exact dR _|exact dR2 _ _|exact dR3 _ _ _|refine dC ?_|refine dC2 ?_|refine dC3 ?_|split
theorem boolK_det {P:Program} {op:BinOp} {t:TypeId} {a b:Bool}:Det (boolK P op t a b):=by
  unfold boolK
  repeat' first
    |exact dF|exact dF2|exact dF3|exact dR _|exact dR2 _ _|exact dR3 _ _ _|refine dC ?_|refine dC2 ?_|refine dC3 ?_|split
theorem scalK_det {P:Program} {op:BinOp} {t:TypeId} {a b:Value}:Det (scalK P op t a b):=by
  unfold scalK
  repeat' first
    |exact dF|exact dF2|exact dF3|exact dR _|exact dR2 _ _|exact dR3 _ _ _|refine dC ?_|refine dC2 ?_|refine dC3 ?_|exact boolK_det|refine db boolK_det fun _=>?_
    |refine dbb boolK_det fun _=>?_|exact aBinC_det|refine db aBinC_det fun _=>?_|refine dbb aBinC_det fun _=>?_|split
theorem nilK_det {op:BinOp} {x y:AV}:Det (nilK op x y):=by
  unfold nilK
  repeat' first
    |exact dF|exact dF2|exact dF3|exact dR _|exact dR2 _ _|exact dR3 _ _ _|refine dC ?_|refine dC2 ?_|refine dC3 ?_|split
theorem binK_det {P:Program} {op:BinOp} {t:TypeId} {x y:AV}:Det (binK P op t x y):=by
  unfold binK
  repeat' first
    |exact dF|exact dF2|exact dF3|exact dR _|exact dR2 _ _|exact dR3 _ _ _|refine dC ?_|refine dC2 ?_|refine dC3 ?_|exact scalK_det|refine db scalK_det fun _=>?_
    |refine dbb scalK_det fun _=>?_|exact nilK_det|refine db nilK_det fun _=>?_|refine dbb nilK_det fun _=>?_|split
theorem unK_det {op:UnOp} {x:AV}:Det (unK op x):=by
  unfold unK
  repeat' first
    |exact dF|exact dF2|exact dF3|exact dR _|exact dR2 _ _|exact dR3 _ _ _|refine dC ?_|refine dC2 ?_|refine dC3 ?_|split
theorem zeroRow_det {P:Program} {e:TypeId}:Det (zeroRow P e):=by
  unfold zeroRow
  repeat' first
    |exact dF|exact dF2|exact dF3|exact dR _|exact dR2 _ _|exact dR3 _ _ _|refine dC ?_|refine dC2 ?_|refine dC3 ?_|exact forceAL_det|refine db forceAL_det fun _=>?_
    |refine dbb forceAL_det fun _=>?_|split
theorem dropK_det {d:Nat} {S:St}:Det (dropK d S):=by
  unfold dropK
  repeat' first
    |exact dF|exact dF2|exact dF3|exact dR _|exact dR2 _ _|exact dR3 _ _ _|refine dC ?_|refine dC2 ?_|refine dC3 ?_|exact killL_det|refine db killL_det fun _=>?_
    |refine dbb killL_det fun _=>?_|exact killLoc_det|refine db killLoc_det fun _=>?_|refine dbb killLoc_det fun _=>?_|split
theorem dropsK_det:∀ (ds:List Nat) (S:St),Det (dropsK ds S)
  | [],S=>by
    show Det (fun K=>dropsK [] S K)
    unfold dropsK
    repeat' first
      | exact Det.failN
      | exact Det2.failN
      | exact Det3.failN
      | exact Det.ret _
      | exact Det2.ret _ _
      | exact Det3.ret _ _ _
      | refine Det.chk ?_
      | refine Det2.chk ?_
      | refine Det3.chk ?_
      | exact dropsK_det _ _
      | refine db (dropsK_det _ _) fun _=>?_
      | refine dbb (dropsK_det _ _) fun _=>?_
      | exact dropK_det
      | refine db dropK_det fun _=>?_
      | refine dbb dropK_det fun _=>?_
      | split
  | d::ds,S=>by
    show Det (fun K=>dropsK (d::ds) S K)
    unfold dropsK
    repeat' first
      | exact Det.failN
      | exact Det2.failN
      | exact Det3.failN
      | exact Det.ret _
      | exact Det2.ret _ _
      | exact Det3.ret _ _ _
      | refine Det.chk ?_
      | refine Det2.chk ?_
      | refine Det3.chk ?_
      | exact dropsK_det _ _
      | refine db (dropsK_det _ _) fun _=>?_
      | refine dbb (dropsK_det _ _) fun _=>?_
      | exact dropK_det
      | refine db dropK_det fun _=>?_
      | refine dbb dropK_det fun _=>?_
      | split
theorem placeO_det {j b:Nat} {o:List Ob} {ob:Ob}:Det (placeO j o b ob):=by
  unfold placeO
  repeat' first
    |exact dF|refine dC ?_|exact forceO_det|split
theorem boxK_det {pl:Pol} {dst:Option Tmp} {cs:List AV} {S:St}:Det (boxK pl dst cs S):=by
  unfold boxK
  repeat' first
    |exact dF|exact dF2|exact dF3|exact dR _|exact dR2 _ _|exact dR3 _ _ _|refine dC ?_|refine dC2 ?_|refine dC3 ?_|exact forceO_det|refine db forceO_det fun _=>?_
    |refine dbb forceO_det fun _=>?_|exact setK_det|refine db setK_det fun _=>?_|refine dbb setK_det fun _=>?_|exact placeO_det|refine db placeO_det fun _=>?_|refine dbb placeO_det fun _=>?_|exact dropK_det|refine db dropK_det fun _=>?_
    |refine dbb dropK_det fun _=>?_|exact killL_det|refine db killL_det fun _=>?_|refine dbb killL_det fun _=>?_|split
theorem fillK_det:∀ (ps:List (Nat×AV)) (place:Nat→Option (Nat×Nat)) (cells:List AV),Det (fillK place cells ps)
  | [],p,c=>by
    show Det (fun K=>fillK p c [] K)
    unfold fillK
    repeat' first
      | exact Det.failN
      | exact Det2.failN
      | exact Det3.failN
      | exact Det.ret _
      | exact Det2.ret _ _
      | exact Det3.ret _ _ _
      | refine Det.chk ?_
      | refine Det2.chk ?_
      | refine Det3.chk ?_
      | exact fillK_det _ _ _
      | refine db (fillK_det _ _ _) fun _=>?_
      | refine dbb (fillK_det _ _ _) fun _=>?_
      | exact forceL_det
      | refine db forceL_det fun _=>?_
      | refine dbb forceL_det fun _=>?_
      | exact cellsK_det
      | refine db cellsK_det fun _=>?_
      | refine dbb cellsK_det fun _=>?_
      | split
  | (i,x)::rest,p,c=>by
    show Det (fun K=>fillK p c ((i,x)::rest) K)
    unfold fillK
    repeat' first
      | exact Det.failN
      | exact Det2.failN
      | exact Det3.failN
      | exact Det.ret _
      | exact Det2.ret _ _
      | exact Det3.ret _ _ _
      | refine Det.chk ?_
      | refine Det2.chk ?_
      | refine Det3.chk ?_
      | exact fillK_det _ _ _
      | refine db (fillK_det _ _ _) fun _=>?_
      | refine dbb (fillK_det _ _ _) fun _=>?_
      | exact forceL_det
      | refine db forceL_det fun _=>?_
      | refine dbb forceL_det fun _=>?_
      | exact cellsK_det
      | refine db cellsK_det fun _=>?_
      | refine dbb cellsK_det fun _=>?_
      | split
theorem buildK_det {P:Program} {t:TypeId} {parts:List (Nat×AV)}:Det (buildK P t parts):=by
  unfold buildK
  repeat' first
    |exact dF|exact dF2|exact dF3|exact dR _|exact dR2 _ _|exact dR3 _ _ _|refine dC ?_|refine dC2 ?_|refine dC3 ?_|exact zeroRow_det|refine db zeroRow_det fun _=>?_
    |refine dbb zeroRow_det fun _=>?_|exact fillK_det _ _ _|refine db (fillK_det _ _ _) fun _=>?_|refine dbb (fillK_det _ _ _) fun _=>?_|split
theorem forceRows_det:∀ (xs:List (List AV)),Det (forceRows xs)
  | []=>by
    show Det (fun K=>forceRows [] K)
    unfold forceRows
    repeat' first
      | exact Det.failN
      | exact Det2.failN
      | exact Det3.failN
      | exact Det.ret _
      | exact Det2.ret _ _
      | exact Det3.ret _ _ _
      | refine Det.chk ?_
      | refine Det2.chk ?_
      | refine Det3.chk ?_
      | exact forceRows_det _
      | refine db (forceRows_det _) fun _=>?_
      | refine dbb (forceRows_det _) fun _=>?_
      | exact forceL_det
      | refine db forceL_det fun _=>?_
      | refine dbb forceL_det fun _=>?_
      | split
  | x::xs=>by
    show Det (fun K=>forceRows (x::xs) K)
    unfold forceRows
    repeat' first
      | exact Det.failN
      | exact Det2.failN
      | exact Det3.failN
      | exact Det.ret _
      | exact Det2.ret _ _
      | exact Det3.ret _ _ _
      | refine Det.chk ?_
      | refine Det2.chk ?_
      | refine Det3.chk ?_
      | exact forceRows_det _
      | refine db (forceRows_det _) fun _=>?_
      | refine dbb (forceRows_det _) fun _=>?_
      | exact forceL_det
      | refine db forceL_det fun _=>?_
      | refine dbb forceL_det fun _=>?_
      | split
theorem buildSliceK_det {P:Program} {pl:Pol} {dst:Option Tmp} {t:TypeId} {len:Nat} {parts:List (Nat×AV)} {S:St}:Det (buildSliceK P pl dst t len parts S):=by
  unfold buildSliceK
  repeat' first
    |exact dF|exact dF2|exact dF3|exact dR _|exact dR2 _ _|exact dR3 _ _ _|refine dC ?_|refine dC2 ?_|refine dC3 ?_|exact putK_det|refine db putK_det fun _=>?_
    |refine dbb putK_det fun _=>?_|exact zeroRow_det|refine db zeroRow_det fun _=>?_|refine dbb zeroRow_det fun _=>?_|exact fillK_det _ _ _|refine db (fillK_det _ _ _) fun _=>?_
    |refine dbb (fillK_det _ _ _) fun _=>?_|exact forceRows_det _|refine db (forceRows_det _) fun _=>?_|refine dbb (forceRows_det _) fun _=>?_|exact forceO_det
    |refine db forceO_det fun _=>?_|refine dbb forceO_det fun _=>?_|split
theorem buildFzK_det {P:Program} {pl:Pol} {dst:Option Tmp} {t:TypeId} {len:Nat} {parts:List (Nat×AV)}:Det (buildFzK P pl dst t len parts):=by
  unfold buildFzK
  repeat' first
    |exact dF|exact dF2|exact dF3|exact dR _|exact dR2 _ _|exact dR3 _ _ _|refine dC ?_|refine dC2 ?_|refine dC3 ?_|exact zeroRow_det|refine db zeroRow_det fun _=>?_
    |refine dbb zeroRow_det fun _=>?_|exact fillK_det _ _ _|refine db (fillK_det _ _ _) fun _=>?_|refine dbb (fillK_det _ _ _) fun _=>?_|exact forceRows_det _
    |refine db (forceRows_det _) fun _=>?_|refine dbb (forceRows_det _) fun _=>?_|split
theorem lenK_det {P:Program} {t:TypeId} {S:St} {x:AV}:Det (lenK P t S x):=by
  unfold lenK
  repeat' first
    |exact dF|exact dF2|exact dF3|exact dR _|exact dR2 _ _|exact dR3 _ _ _|refine dC ?_|refine dC2 ?_|refine dC3 ?_|split
theorem rowsK_det {size:Nat} {S:St} {x:AV}:Det2 (rowsK size S x):=by
  unfold rowsK
  repeat' first
    |exact dF|exact dF2|exact dF3|exact dR _|exact dR2 _ _|exact dR3 _ _ _|refine dC ?_|refine dC2 ?_|refine dC3 ?_|refine dbb rowK_det fun _=>?_|split
theorem growK_det {S:St} {id:Nat} {ob:Ob}:Det2 (growK S id ob):=by
  unfold growK
  repeat' first
    |exact dF|exact dF2|exact dF3|exact dR _|exact dR2 _ _|exact dR3 _ _ _|refine dC ?_|refine dC2 ?_|refine dC3 ?_|exact killL_det|refine db killL_det fun _=>?_
    |refine dbb killL_det fun _=>?_|exact killLoc_det|refine db killLoc_det fun _=>?_|refine dbb killLoc_det fun _=>?_|exact killObs_det|refine db killObs_det fun _=>?_
    |refine dbb killObs_det fun _=>?_|exact forceO_det|refine db forceO_det fun _=>?_|refine dbb forceO_det fun _=>?_|split
theorem appendK_det {P:Program} {ts:List TypeId} {base x:AV} {S:St}:Det2 (appendK P ts base x S):=by
  unfold appendK
  repeat' first
    |exact dF|exact dF2|exact dF3|exact dR _|exact dR2 _ _|exact dR3 _ _ _|refine dC ?_|refine dC2 ?_|refine dC3 ?_|exact rowsK_det|refine dd rowsK_det fun _ _=>?_
    |refine ddd rowsK_det fun _ _=>?_|exact forceO_det|refine db forceO_det fun _=>?_|refine dbb forceO_det fun _=>?_|exact growK_det|refine dd growK_det fun _ _=>?_
    |refine ddd growK_det fun _ _=>?_|split
theorem appendFK_det {P:Program} {ts:List TypeId} {base x:AV}:Det (appendFK P ts base x):=by
  unfold appendFK
  repeat' first
    |exact dF|exact dF2|exact dF3|exact dR _|exact dR2 _ _|exact dR3 _ _ _|refine dC ?_|refine dC2 ?_|refine dC3 ?_|exact rowsK_det|refine dd rowsK_det fun _ _=>?_
    |refine ddd rowsK_det fun _ _=>?_|split
theorem appendZK_det {P:Program} {ts:List TypeId} {base:AV} {n:Int} {S:St}:Det2 (appendZK P ts base n S):=by
  unfold appendZK
  repeat' first
    |exact dF|exact dF2|exact dF3|exact dR _|exact dR2 _ _|exact dR3 _ _ _|refine dC ?_|refine dC2 ?_|refine dC3 ?_|exact zeroRow_det|refine db zeroRow_det fun _=>?_
    |refine dbb zeroRow_det fun _=>?_|exact forceO_det|refine db forceO_det fun _=>?_|refine dbb forceO_det fun _=>?_|split
theorem capK_det {P:Program} {ts:List TypeId} {x:AV}:Det (capK P ts x):=by
  unfold capK
  repeat' first
    |exact dF|exact dF2|exact dF3|exact dR _|exact dR2 _ _|exact dR3 _ _ _|refine dC ?_|refine dC2 ?_|refine dC3 ?_|split
theorem copyK_det {P:Program} {ts:List TypeId} {x y:AV} {M:St}:Det2 (copyK P ts x y M):=by
  unfold copyK
  repeat' first
    |exact dF|exact dF2|exact dF3|exact dR _|exact dR2 _ _|exact dR3 _ _ _|refine dC ?_|refine dC2 ?_|refine dC3 ?_|exact rowsK_det|refine dd rowsK_det fun _ _=>?_
    |refine ddd rowsK_det fun _ _=>?_|exact forceO_det|refine db forceO_det fun _=>?_|refine dbb forceO_det fun _=>?_|split
theorem clearK_det {P:Program} {ts:List TypeId} {x:AV} {M:St}:Det (clearK P ts x M):=by
  unfold clearK
  repeat' first
    |exact dF|exact dF2|exact dF3|exact dR _|exact dR2 _ _|exact dR3 _ _ _|refine dC ?_|refine dC2 ?_|refine dC3 ?_|refine db zeroRow_det fun _=>?_|refine db forceO_det fun _=>?_|split
theorem intOf_det {a:AV}:Det (intOf a):=by
  unfold intOf
  repeat' first
    |exact dF|exact dF2|exact dF3|exact dR _|exact dR2 _ _|exact dR3 _ _ _|refine dC ?_|refine dC2 ?_|refine dC3 ?_|split
theorem makeSliceK_det {P:Program} {t:TypeId} {l c:AV} {S:St}:Det2 (makeSliceK P t l c S):=by
  unfold makeSliceK
  repeat' first
    |exact dF|exact dF2|exact dF3|exact dR _|exact dR2 _ _|exact dR3 _ _ _|refine dC ?_|refine dC2 ?_|refine dC3 ?_|exact intOf_det|refine db intOf_det fun _=>?_
    |refine dbb intOf_det fun _=>?_|exact zeroRow_det|refine db zeroRow_det fun _=>?_|refine dbb zeroRow_det fun _=>?_|exact forceO_det|refine db forceO_det fun _=>?_
    |refine dbb forceO_det fun _=>?_|split
theorem cutK_det {len cap:Nat} {lo hi mx:Option Int}:Det3 (cutK len cap lo hi mx):=by
  unfold cutK
  repeat' first
    |exact dF|exact dF2|exact dF3|exact dR _|exact dR2 _ _|exact dR3 _ _ _|refine dC ?_|refine dC2 ?_|refine dC3 ?_|split
theorem sliceK_det {P:Program} {t:TypeId} {x:AV} {lo hi mx:Option Int} {S:St}:Det (sliceK P t x lo hi mx S):=by
  unfold sliceK
  repeat' first
    |exact dF|exact dF2|exact dF3|exact dR _|exact dR2 _ _|exact dR3 _ _ _|refine dC ?_|refine dC2 ?_|refine dC3 ?_|exact cutK_det|refine dt cutK_det fun _ _ _=>?_
    |split
theorem indexAddrK_det {P:Program} {t:TypeId} {x ix:AV} {S:St}:Det (indexAddrK P t x ix S):=by
  unfold indexAddrK
  repeat' first
    |exact dF|exact dF2|exact dF3|exact dR _|exact dR2 _ _|exact dR3 _ _ _|refine dC ?_|refine dC2 ?_|refine dC3 ?_|exact intOf_det|refine db intOf_det fun _=>?_
    |refine dbb intOf_det fun _=>?_|split
theorem indexK_det {P:Program} {t:TypeId} {x ix:AV}:Det (indexK P t x ix):=by
  unfold indexK
  repeat' first
    |exact dF|exact dF2|exact dF3|exact dR _|exact dR2 _ _|exact dR3 _ _ _|refine dC ?_|refine dC2 ?_|refine dC3 ?_|exact intOf_det|refine db intOf_det fun _=>?_
    |refine dbb intOf_det fun _=>?_|exact partK_det|refine db partK_det fun _=>?_|refine dbb partK_det fun _=>?_|split
theorem fieldAddrK_det {P:Program} {t:TypeId} {x:AV} {f:Nat}:Det (fieldAddrK P t x f):=by
  unfold fieldAddrK
  repeat' first
    |exact dF|exact dF2|exact dF3|exact dR _|exact dR2 _ _|exact dR3 _ _ _|refine dC ?_|refine dC2 ?_|refine dC3 ?_|split
theorem fieldK_det {P:Program} {t:TypeId} {x:AV} {f:Nat}:Det (fieldK P t x f):=by
  unfold fieldK
  repeat' first
    |exact dF|exact dF2|exact dF3|exact dR _|exact dR2 _ _|exact dR3 _ _ _|refine dC ?_|refine dC2 ?_|refine dC3 ?_|exact partK_det|refine db partK_det fun _=>?_
    |refine dbb partK_det fun _=>?_|split
theorem convertK_det {P:Program} {src dst:TypeId} {x:AV}:Det (convertK P src dst x):=by
  unfold convertK
  repeat' first
    |exact dF|exact dF2|exact dF3|exact dR _|exact dR2 _ _|exact dR3 _ _ _|refine dC ?_|refine dC2 ?_|refine dC3 ?_|split
theorem convertSK_det {P:Program} {src dst:TypeId} {x:AV} {S:St}:Det (convertSK P src dst x S):=by
  unfold convertSK
  repeat' first
    |exact dF|exact dF2|exact dF3|exact dR _|exact dR2 _ _|exact dR3 _ _ _|refine dC ?_|refine dC2 ?_|refine dC3 ?_|exact convertK_det|refine dd rowsK_det fun _ _=>?_|split
theorem nilSK_det {P:Program} {op:BinOp} {t:TypeId} {x y:AV} {S:St}:Det (nilSK P op t x y S):=by
  unfold nilSK
  repeat' first
    |exact dF|exact dF2|exact dF3|exact dR _|exact dR2 _ _|exact dR3 _ _ _|refine dC ?_|refine dC2 ?_|refine dC3 ?_|exact binK_det|split
theorem dfzK_det {o:List Ob} {a:AV}:Det (dfzK o a):=by
  unfold dfzK
  repeat' first
    |exact dF|exact dF2|exact dF3|exact dR _|exact dR2 _ _|exact dR3 _ _ _|refine dC ?_|refine dC2 ?_|refine dC3 ?_|exact forceA_det|refine db forceA_det fun _=>?_
    |refine dbb forceA_det fun _=>?_|split
theorem dfzsK_det:∀ (xs:List AV) (o:List Ob),Det (dfzsK o xs)
  | [],o=>by
    show Det (fun K=>dfzsK o [] K)
    unfold dfzsK
    repeat' first
      | exact Det.failN
      | exact Det2.failN
      | exact Det3.failN
      | exact Det.ret _
      | exact Det2.ret _ _
      | exact Det3.ret _ _ _
      | refine Det.chk ?_
      | refine Det2.chk ?_
      | refine Det3.chk ?_
      | exact dfzsK_det _ _
      | refine db (dfzsK_det _ _) fun _=>?_
      | refine dbb (dfzsK_det _ _) fun _=>?_
      | exact dfzK_det
      | refine db dfzK_det fun _=>?_
      | refine dbb dfzK_det fun _=>?_
      | split
  | x::xs,o=>by
    show Det (fun K=>dfzsK o (x::xs) K)
    unfold dfzsK
    repeat' first
      | exact Det.failN
      | exact Det2.failN
      | exact Det3.failN
      | exact Det.ret _
      | exact Det2.ret _ _
      | exact Det3.ret _ _ _
      | refine Det.chk ?_
      | refine Det2.chk ?_
      | refine Det3.chk ?_
      | exact dfzsK_det _ _
      | refine db (dfzsK_det _ _) fun _=>?_
      | refine dbb (dfzsK_det _ _) fun _=>?_
      | exact dfzK_det
      | refine db dfzK_det fun _=>?_
      | refine dbb dfzK_det fun _=>?_
      | split
theorem killIds_det:∀ (xs:List Nat) (S:St),Det (killIds xs S)
  | [],S=>by
    show Det (fun K=>killIds [] S K)
    unfold killIds
    repeat' first
      | exact Det.failN
      | exact Det2.failN
      | exact Det3.failN
      | exact Det.ret _
      | exact Det2.ret _ _
      | exact Det3.ret _ _ _
      | refine Det.chk ?_
      | refine Det2.chk ?_
      | refine Det3.chk ?_
      | exact killIds_det _ _
      | refine db (killIds_det _ _) fun _=>?_
      | refine dbb (killIds_det _ _) fun _=>?_
      | exact killL_det
      | refine db killL_det fun _=>?_
      | refine dbb killL_det fun _=>?_
      | exact killLoc_det
      | refine db killLoc_det fun _=>?_
      | refine dbb killLoc_det fun _=>?_
      | exact killObs_det
      | refine db killObs_det fun _=>?_
      | refine dbb killObs_det fun _=>?_
      | exact forceO_det
      | refine db forceO_det fun _=>?_
      | refine dbb forceO_det fun _=>?_
      | split
  | x::xs,S=>by
    show Det (fun K=>killIds (x::xs) S K)
    unfold killIds
    repeat' first
      | exact Det.failN
      | exact Det2.failN
      | exact Det3.failN
      | exact Det.ret _
      | exact Det2.ret _ _
      | exact Det3.ret _ _ _
      | refine Det.chk ?_
      | refine Det2.chk ?_
      | refine Det3.chk ?_
      | exact killIds_det _ _
      | refine db (killIds_det _ _) fun _=>?_
      | refine dbb (killIds_det _ _) fun _=>?_
      | exact killL_det
      | refine db killL_det fun _=>?_
      | refine dbb killL_det fun _=>?_
      | exact killLoc_det
      | refine db killLoc_det fun _=>?_
      | refine dbb killLoc_det fun _=>?_
      | exact killObs_det
      | refine db killObs_det fun _=>?_
      | refine dbb killObs_det fun _=>?_
      | exact forceO_det
      | refine db forceO_det fun _=>?_
      | refine dbb forceO_det fun _=>?_
      | split
theorem killTL_det:∀ (xs:List Nat) (t:List AV) (l:List (Nat×List AV)),Det2 (killTL xs t l)
  | [],t,l=>by
    show Det2 (fun K=>killTL [] t l K)
    unfold killTL
    repeat' first
      | exact Det.failN
      | exact Det2.failN
      | exact Det3.failN
      | exact Det.ret _
      | exact Det2.ret _ _
      | exact Det3.ret _ _ _
      | refine Det.chk ?_
      | refine Det2.chk ?_
      | refine Det3.chk ?_
      | exact killTL_det _ _ _
      | refine dd (killTL_det _ _ _) fun _ _=>?_
      | refine ddd (killTL_det _ _ _) fun _ _=>?_
      | exact killL_det
      | refine db killL_det fun _=>?_
      | refine dbb killL_det fun _=>?_
      | exact killLoc_det
      | refine db killLoc_det fun _=>?_
      | refine dbb killLoc_det fun _=>?_
      | split
  | x::xs,t,l=>by
    show Det2 (fun K=>killTL (x::xs) t l K)
    unfold killTL
    repeat' first
      | exact Det.failN
      | exact Det2.failN
      | exact Det3.failN
      | exact Det.ret _
      | exact Det2.ret _ _
      | exact Det3.ret _ _ _
      | refine Det.chk ?_
      | refine Det2.chk ?_
      | refine Det3.chk ?_
      | exact killTL_det _ _ _
      | refine dd (killTL_det _ _ _) fun _ _=>?_
      | refine ddd (killTL_det _ _ _) fun _ _=>?_
      | exact killL_det
      | refine db killL_det fun _=>?_
      | refine dbb killL_det fun _=>?_
      | exact killLoc_det
      | refine db killLoc_det fun _=>?_
      | refine dbb killLoc_det fun _=>?_
      | split
theorem callK_det {C:Ctx} {f:AV} {args:List AV} {S:St} (hC:CDet C):Det2 (callK C f args S):=by
  unfold callK
  repeat' first
    |exact dF|exact dF2|exact dF3|exact dR _|exact dR2 _ _|exact dR3 _ _ _|refine dC ?_|refine dC2 ?_|refine dC3 ?_|exact dfzsK_det _ _|refine db (dfzsK_det _ _) fun _=>?_
    |refine dbb (dfzsK_det _ _) fun _=>?_|exact killIds_det _ _|refine db (killIds_det _ _) fun _=>?_|refine dbb (killIds_det _ _) fun _=>?_|exact killTL_det _ _ _
    |refine dd (killTL_det _ _ _) fun _ _=>?_|refine ddd (killTL_det _ _ _) fun _ _=>?_|exact hC.pcall _ _|refine db (hC.pcall _ _) fun _=>?_|refine dbb (hC.pcall _ _) fun _=>?_
    |refine ddd (hC.scall _ _ _) fun _ _=>?_|refine dd (hC.scall _ _ _) fun _ _=>?_|split
theorem findK_det {P:Program} {kt:TypeId} {key:AV} {es:List (AV×AV)}:Det2 (findK P kt key es):=by
  unfold findK
  repeat' first
    |exact dF|exact dF2|exact dF3|exact dR _|exact dR2 _ _|exact dR3 _ _ _|refine dC ?_|refine dC2 ?_|refine dC3 ?_|split
theorem retOk_det {ok:Bool} {x:AV} {b:Bool}:Det (retOk ok x b):=by
  unfold retOk
  repeat' first
    |exact dF|exact dF2|exact dF3|exact dR _|exact dR2 _ _|exact dR3 _ _ _|refine dC ?_|refine dC2 ?_|refine dC3 ?_|split
theorem zeroOk_det {P:Program} {e:TypeId} {ok:Bool}:Det (zeroOk P e ok):=by
  unfold zeroOk
  repeat' first
    |exact dF|exact dF2|exact dF3|exact dR _|exact dR2 _ _|exact dR3 _ _ _|refine dC ?_|refine dC2 ?_|refine dC3 ?_|exact forceA_det|refine db forceA_det fun _=>?_
    |refine dbb forceA_det fun _=>?_|exact retOk_det|refine db retOk_det fun _=>?_|refine dbb retOk_det fun _=>?_|split
theorem foundOk_det {P:Program} {e:TypeId} {ok:Bool} {es:List (AV×AV)} {r:Option Nat}:Det (foundOk P e ok es r):=by
  unfold foundOk
  repeat' first
    |exact dF|exact dF2|exact dF3|exact dR _|exact dR2 _ _|exact dR3 _ _ _|refine dC ?_|refine dC2 ?_|refine dC3 ?_|exact retOk_det|refine db retOk_det fun _=>?_
    |refine dbb retOk_det fun _=>?_|exact zeroOk_det|refine db zeroOk_det fun _=>?_|refine dbb zeroOk_det fun _=>?_|split
theorem lookupK_det {P:Program} {t:TypeId} {m key:AV} {ok:Bool} {S:St}:Det (lookupK P t m key ok S):=by
  unfold lookupK
  repeat' first
    |exact dF|exact dF2|exact dF3|exact dR _|exact dR2 _ _|exact dR3 _ _ _|refine dC ?_|refine dC2 ?_|refine dC3 ?_|exact findK_det|refine dd findK_det fun _ _=>?_
    |refine ddd findK_det fun _ _=>?_|exact zeroOk_det|refine db zeroOk_det fun _=>?_|refine dbb zeroOk_det fun _=>?_|exact foundOk_det|refine db foundOk_det fun _=>?_
    |refine dbb foundOk_det fun _=>?_|split
theorem mapUpdateK_det {P:Program} {t:TypeId} {m key x:AV} {S:St}:Det (mapUpdateK P t m key x S):=by
  unfold mapUpdateK
  repeat' first
    |exact dF|exact dF2|exact dF3|exact dR _|exact dR2 _ _|exact dR3 _ _ _|refine dC ?_|refine dC2 ?_|refine dC3 ?_|exact findK_det|refine dd findK_det fun _ _=>?_
    |refine ddd findK_det fun _ _=>?_|exact forceO_det|refine db forceO_det fun _=>?_|refine dbb forceO_det fun _=>?_|split
theorem pop_det {C:Ctx} {pl:Pol} {o:Oper} {vs:List AV}:Det (pop C pl o vs):=by
  unfold pop
  repeat' first
    |exact dF|exact dF2|exact dF3|exact dR _|exact dR2 _ _|exact dR3 _ _ _|refine dC ?_|refine dC2 ?_|refine dC3 ?_|refine Det.fork ?_ ?_|refine Det2.fork ?_ ?_
    |exact buildK_det|refine db buildK_det fun _=>?_|refine dbb buildK_det fun _=>?_|exact buildFzK_det|refine db buildFzK_det fun _=>?_|refine dbb buildFzK_det fun _=>?_
    |exact binK_det|refine db binK_det fun _=>?_|refine dbb binK_det fun _=>?_|exact unK_det|refine db unK_det fun _=>?_|refine dbb unK_det fun _=>?_|exact forceL_det
    |refine db forceL_det fun _=>?_|refine dbb forceL_det fun _=>?_|exact fieldAddrK_det|refine db fieldAddrK_det fun _=>?_|refine dbb fieldAddrK_det fun _=>?_
    |exact fieldK_det|refine db fieldK_det fun _=>?_|refine dbb fieldK_det fun _=>?_|exact indexK_det|refine db indexK_det fun _=>?_|refine dbb indexK_det fun _=>?_
    |exact nthK_det|refine db nthK_det fun _=>?_|refine dbb nthK_det fun _=>?_|exact capK_det|refine db capK_det fun _=>?_|refine dbb capK_det fun _=>?_
    |split
theorem rop_det {C:Ctx} {o:Oper} {vs:List AV} {M:St} (hC:CDet C):Det (rop C o vs M):=by
  unfold rop
  repeat' first
    |exact dF|exact dF2|exact dF3|exact dR _|exact dR2 _ _|exact dR3 _ _ _|refine dC ?_|refine dC2 ?_|refine dC3 ?_|exact atK_det|refine dd atK_det fun _ _=>?_
    |refine ddd atK_det fun _ _=>?_|exact partK_det|refine db partK_det fun _=>?_|refine dbb partK_det fun _=>?_|exact nilSK_det|exact convertSK_det|refine db convertSK_det fun _=>?_
    |refine dbb convertSK_det fun _=>?_|exact sliceK_det|refine db sliceK_det fun _=>?_|refine dbb sliceK_det fun _=>?_|exact intOf_det|refine db intOf_det fun _=>?_
    |refine dbb intOf_det fun _=>?_|exact indexAddrK_det|refine db indexAddrK_det fun _=>?_|refine dbb indexAddrK_det fun _=>?_|exact lookupK_det|refine db lookupK_det fun _=>?_
    |refine dbb lookupK_det fun _=>?_|exact lenK_det|refine db lenK_det fun _=>?_|refine dbb lenK_det fun _=>?_|exact dfzsK_det _ _|refine db (dfzsK_det _ _) fun _=>?_
    |refine dbb (dfzsK_det _ _) fun _=>?_|exact hC.pcall _ _|refine db (hC.pcall _ _) fun _=>?_|refine dbb (hC.pcall _ _) fun _=>?_|split
theorem wop_det {C:Ctx} {o:Oper} {vs:List AV} {M:St}:Det2 (wop C o vs M):=by
  unfold wop
  repeat' first
    |exact dF|exact dF2|exact dF3|exact dR _|exact dR2 _ _|exact dR3 _ _ _|refine dC ?_|refine dC2 ?_|refine dC3 ?_|exact cellsK_det|refine db cellsK_det fun _=>?_
    |refine dbb cellsK_det fun _=>?_|exact storeK_det|refine db storeK_det fun _=>?_|refine dbb storeK_det fun _=>?_|split
theorem makeFK_det {P:Program} {t:TypeId} {l c:AV}:Det (makeFK P t l c):=by
  unfold makeFK
  refine dd makeSliceK_det fun _ _=>?_
  split
  · exact dR _
  · exact dF
theorem fop_det {C:Ctx} {o:Oper} {vs:List AV}:Det (fop C o vs):=by
  unfold fop
  repeat' first
    |exact dF|exact dF2|exact dF3|exact dR _|exact dR2 _ _|exact dR3 _ _ _|refine dC ?_|refine dC2 ?_|refine dC3 ?_|exact appendFK_det|exact makeFK_det|split
theorem fop1_det {C:Ctx} {o:Oper} {S:St}:Det (fop1 C o S):=by
  unfold fop1
  repeat' first
    |exact dF|exact dF2|exact dF3|exact dR _|exact dR2 _ _|exact dR3 _ _ _|refine dC ?_|refine dC2 ?_|refine dC3 ?_|exact getsK_det|refine db getsK_det fun _=>?_
    |refine dbb getsK_det fun _=>?_|exact fop_det|refine db fop_det fun _=>?_|refine dbb fop_det fun _=>?_|exact putK_det|refine db putK_det fun _=>?_
    |refine dbb putK_det fun _=>?_|split
theorem pop1_det {C:Ctx} {pl:Pol} {o:Oper} {S:St}:Det (pop1 C pl o S):=by
  unfold pop1
  repeat' first
    |exact dF|exact dF2|exact dF3|exact dR _|exact dR2 _ _|exact dR3 _ _ _|refine dC ?_|refine dC2 ?_|refine dC3 ?_|exact getsK_det|refine db getsK_det fun _=>?_
    |refine dbb getsK_det fun _=>?_|exact pop_det|refine db pop_det fun _=>?_|refine dbb pop_det fun _=>?_|exact putK_det|refine db putK_det fun _=>?_
    |refine dbb putK_det fun _=>?_|split
theorem rop1_det {C:Ctx} {o:Oper} {S:St} (hC:CDet C):Det (rop1 C o S):=by
  unfold rop1
  repeat' first
    |exact dF|exact dF2|exact dF3|exact dR _|exact dR2 _ _|exact dR3 _ _ _|refine dC ?_|refine dC2 ?_|refine dC3 ?_|exact getsK_det|refine db getsK_det fun _=>?_
    |refine dbb getsK_det fun _=>?_|exact rop_det hC|refine db (rop_det hC) fun _=>?_|refine dbb (rop_det hC) fun _=>?_|exact putK_det|refine db putK_det fun _=>?_
    |refine dbb putK_det fun _=>?_|split
theorem wop1_det {C:Ctx} {o:Oper} {S:St}:Det (wop1 C o S):=by
  unfold wop1
  repeat' first
    |exact dF|exact dF2|exact dF3|exact dR _|exact dR2 _ _|exact dR3 _ _ _|refine dC ?_|refine dC2 ?_|refine dC3 ?_|exact getsK_det|refine db getsK_det fun _=>?_
    |refine dbb getsK_det fun _=>?_|exact wop_det|refine dd wop_det fun _ _=>?_|refine ddd wop_det fun _ _=>?_|exact putK_det|refine db putK_det fun _=>?_
    |refine dbb putK_det fun _=>?_|split
theorem xop_det {C:Ctx} {pl:Pol} {o:Oper} {S:St} (hC:CDet C):Det (xop C pl o S):=by
  unfold xop
  repeat' first
    |exact dF|exact dF2|exact dF3|exact dR _|exact dR2 _ _|exact dR3 _ _ _|refine dC ?_|refine dC2 ?_|refine dC3 ?_|exact zeroRow_det|refine db zeroRow_det fun _=>?_
    |refine dbb zeroRow_det fun _=>?_|exact boxK_det|refine db boxK_det fun _=>?_|refine dbb boxK_det fun _=>?_|exact getK_det|refine db getK_det fun _=>?_
    |refine dbb getK_det fun _=>?_|exact cellsK_det|refine db cellsK_det fun _=>?_|refine dbb cellsK_det fun _=>?_|exact getsK_det|refine db getsK_det fun _=>?_
    |refine dbb getsK_det fun _=>?_|exact buildSliceK_det|refine db buildSliceK_det fun _=>?_|refine dbb buildSliceK_det fun _=>?_|exact forceO_det|refine db forceO_det fun _=>?_
    |refine dbb forceO_det fun _=>?_|exact putK_det|refine db putK_det fun _=>?_|refine dbb putK_det fun _=>?_|exact makeSliceK_det|refine dd makeSliceK_det fun _ _=>?_
    |refine ddd makeSliceK_det fun _ _=>?_|exact mapUpdateK_det|refine db mapUpdateK_det fun _=>?_|refine dbb mapUpdateK_det fun _=>?_|exact appendZK_det
    |refine dd appendZK_det fun _ _=>?_|refine ddd appendZK_det fun _ _=>?_|exact appendK_det|refine dd appendK_det fun _ _=>?_|refine ddd appendK_det fun _ _=>?_
    |refine db clearK_det fun _=>?_|exact copyK_det|refine dd copyK_det fun _ _=>?_|refine ddd copyK_det fun _ _=>?_|exact callK_det hC|refine dd (callK_det hC) fun _ _=>?_|refine ddd (callK_det hC) fun _ _=>?_
    |split
theorem Det2.swap {α β:Type} {X:(α→β→Prop)→Prop} (h:Det2 X):Det2 (fun k:β→α→Prop=>X fun a b=>k b a):=fun k hk=>by
  obtain ⟨a,b,h1,h2⟩:=h _ hk
  exact ⟨b,a,h1,fun k' hk'=>h2 _ hk'⟩
theorem wopD0_det {C:Ctx} {o:Oper} {vs:List AV} {M:St} (hC:CDet C):Det2 (wopD0 C o vs M):=by
  unfold wopD0
  split
  · exact Det2.swap makeSliceK_det
  · split
    · refine Det2.chk ?_
      refine Det2.bind2 (hC.scall _ _ _) (fun _ _=>?_)
      exact Det2.chk (Det2.ret _ _)
    · exact Det2.failN
  · exact wop_det
theorem putBackK_det {S:St} {id:Nat}:Det (putBackK S id):=by
  unfold putBackK
  repeat' first
    |exact dF|exact dF2|exact dF3|exact dR _|exact dR2 _ _|exact dR3 _ _ _|refine dC ?_|refine dC2 ?_|refine dC3 ?_
    |exact forceO_det|refine db forceO_det fun _=>?_|refine dbb forceO_det fun _=>?_
    |exact (killIds_det _ _)|refine db (killIds_det _ _) fun _=>?_|refine dbb (killIds_det _ _) fun _=>?_
    |split
theorem closesK_det:∀ (ids:List Nat) (S:St),Det (closesK ids S)
  | [],_=>Det.ret _
  | id::ids,S=>by
    show Det (fun K=>putBackK S id fun S'=>closesK ids S' K)
    exact Det.bind putBackK_det (fun S'=>closesK_det ids S')
theorem freezeK_det {S:St} {id:Nat}:Det (freezeK S id):=by
  unfold freezeK
  split
  · exact Det.bind forceO_det (fun _=>Det.ret _)
  · exact Det.bind forceO_det (fun _=>Det.ret _)
  · exact Det.ret _
theorem freezesK_det:∀ (ids:List Nat) (S:St),Det (freezesK ids S)
  | [],_=>Det.ret _
  | id::ids,S=>by
    show Det (fun K=>freezeK S id fun S'=>freezesK ids S' K)
    exact Det.bind freezeK_det (fun S'=>freezesK_det ids S')
theorem postR_det {pl:Pol} {id:Nat} {S:St}:Det (postR pl id S):=by
  unfold postR
  split
  · exact Det.ret _
  · refine Det.bind (closesK_det _ _) (fun S1=>?_)
    split
    · exact Det.ret _
    · exact freezesK_det _ _
theorem ownTakeK_det {S:St} {pk:Bool} {id i:Nat}:Det2 (ownTakeK S pk id i):=by
  unfold ownTakeK
  repeat' first
    |exact dF|exact dF2|exact dF3|exact dR _|exact dR2 _ _|exact dR3 _ _ _|refine dC ?_|refine dC2 ?_|refine dC3 ?_
    |exact forceO_det|refine db forceO_det fun _=>?_|refine dbb forceO_det fun _=>?_
    |refine dbb forceA_det fun _=>?_
    |split
theorem ownLoadK_det {P:Program} {t:TypeId} {same pk:Bool} {S:St} {id i:Nat}:Det2 (ownLoadK P t same pk S id i):=by
  unfold ownLoadK
  repeat' first
    |exact dF|exact dF2|exact dF3|exact dR _|exact dR2 _ _|exact dR3 _ _ _|refine dC ?_|refine dC2 ?_|refine dC3 ?_
    |exact partK_det|refine db partK_det fun _=>?_|refine dbb partK_det fun _=>?_
    |exact ownTakeK_det|refine dd ownTakeK_det fun _ _=>?_|refine ddd ownTakeK_det fun _ _=>?_
    |split
theorem ownStoreK_det {P:Program} {t:TypeId} {S:St} {id i:Nat} {v:AV}:Det (ownStoreK P t S id i v):=by
  unfold ownStoreK
  repeat' first
    |exact dF|exact dF2|exact dF3|exact dR _|exact dR2 _ _|exact dR3 _ _ _|refine dC ?_|refine dC2 ?_|refine dC3 ?_
    |exact forceO_det|refine db forceO_det fun _=>?_|refine dbb forceO_det fun _=>?_
    |split
theorem makeOwnK_det {P:Program} {t:TypeId} {nw:Bool} {j:Nat} {l c:AV} {S:St}:Det2 (makeOwnK P nw j t l c S):=by
  unfold makeOwnK
  repeat' first
    |exact dF|exact dF2|exact dF3|exact dR _|exact dR2 _ _|exact dR3 _ _ _|refine dC ?_|refine dC2 ?_|refine dC3 ?_
    |exact placeO_det|refine db placeO_det fun _=>?_|refine dbb placeO_det fun _=>?_
    |exact forceO_det|refine db forceO_det fun _=>?_|refine dbb forceO_det fun _=>?_
    |exact intOf_det|refine db intOf_det fun _=>?_|refine dbb intOf_det fun _=>?_
    |exact zeroRow_det|refine db zeroRow_det fun _=>?_|refine dbb zeroRow_det fun _=>?_
    |split
theorem makeOwnMapK_det {P:Program} {t:TypeId} {S:St}:Det2 (makeOwnMapK P t S):=by
  unfold makeOwnMapK
  repeat' first
    |exact dF|exact dF2|exact dF3|exact dR _|exact dR2 _ _|exact dR3 _ _ _|refine dC ?_|refine dC2 ?_|refine dC3 ?_
    |exact forceO_det|refine db forceO_det fun _=>?_|refine dbb forceO_det fun _=>?_
    |split
theorem ownLookK_det {P:Program} {t:TypeId} {m key:AV} {ok:Bool} {S:St}:Det2 (ownLookK P t m key ok S):=by
  unfold ownLookK
  repeat' first
    |exact dF|exact dF2|exact dF3|exact dR _|exact dR2 _ _|exact dR3 _ _ _|refine dC ?_|refine dC2 ?_|refine dC3 ?_
    |exact retOk_det|refine db retOk_det fun _=>?_|refine dbb retOk_det fun _=>?_
    |exact zeroOk_det|refine db zeroOk_det fun _=>?_|refine dbb zeroOk_det fun _=>?_
    |exact findK_det|refine dd findK_det fun _ _=>?_|refine ddd findK_det fun _ _=>?_
    |exact ownTakeK_det|refine dd ownTakeK_det fun _ _=>?_|refine ddd ownTakeK_det fun _ _=>?_
    |split
theorem ownUpdK_det {P:Program} {t:TypeId} {m key x:AV} {S:St}:Det (ownUpdK P t m key x S):=by
  unfold ownUpdK
  repeat' first
    |exact dF|exact dF2|exact dF3|exact dR _|exact dR2 _ _|exact dR3 _ _ _|refine dC ?_|refine dC2 ?_|refine dC3 ?_
    |exact forceO_det|refine db forceO_det fun _=>?_|refine dbb forceO_det fun _=>?_
    |exact findK_det|refine dd findK_det fun _ _=>?_|refine ddd findK_det fun _ _=>?_
    |split
theorem ownAtK_fn {M:St} {x:AV} {X:Nat→Nat→(AV→St→Prop)→Prop} (h:∀ id i,Det2 (X id i)):Det2 (fun k=>ownAtK M x fun id i=>X id i k):=by
  unfold ownAtK
  split
  · split
    · exact h _ _
    · exact Det2.failN
  · exact Det2.failN
theorem ownD_det {P:Program} {pl:Pol} {o:Oper} {vs:List AV} {M:St}:Det2 (ownD P pl o vs M):=by
  unfold ownD
  split
  · exact ownAtK_fn fun _ _=>ownLoadK_det
  · exact ownAtK_fn fun _ _=>Det.bind2 ownStoreK_det (fun _=>Det2.ret _ _)
  · exact makeOwnK_det
  · exact makeOwnMapK_det
  · exact ownLookK_det
  · exact Det.bind2 ownUpdK_det (fun _=>Det2.ret _ _)
  · exact Det.bind2 ownUpdK_det (fun _=>Det2.ret _ _)
  · exact Det2.failN
theorem own1_det {C:Ctx} {pl:Pol} {o:Oper} {S:St}:Det (own1 C pl o S):=by
  unfold own1
  exact Det.bind getsK_det (fun _=>Det2.bind ownD_det (fun _ _=>putK_det))
theorem wopD_det {C:Ctx} {pl:Pol} {o:Oper} {vs:List AV} {M:St} (hC:CDet C):Det2 (wopD C pl o vs M):=by
  unfold wopD
  split
  · exact ownD_det
  · exact wopD0_det hC
theorem wop1D_det {C:Ctx} {pl:Pol} {o:Oper} {S:St} (hC:CDet C):Det (wop1D C pl o S):=by
  unfold wop1D
  exact Det.bind getsK_det (fun _=>Det2.bind (wopD_det hC) (fun _ _=>putK_det))
theorem dop_det {C:Ctx} {pl:Pol} {o:Oper} {S:St} (hC:CDet C):Det (dop C pl o S):=by
  unfold dop
  repeat' first
    |exact dF|exact dF2|exact dF3|exact dR _|exact dR2 _ _|exact dR3 _ _ _|refine dC ?_|refine dC2 ?_|refine dC3 ?_|exact pop1_det|refine db pop1_det fun _=>?_
    |refine dbb pop1_det fun _=>?_|exact rop1_det hC|refine db (rop1_det hC) fun _=>?_|refine dbb (rop1_det hC) fun _=>?_|exact wop1D_det hC|refine db (wop1D_det hC) fun _=>?_
    |refine dbb (wop1D_det hC) fun _=>?_|exact fop1_det|refine db fop1_det fun _=>?_|refine dbb fop1_det fun _=>?_|exact putK_det|refine db putK_det fun _=>?_
    |refine dbb putK_det fun _=>?_|exact xop_det hC|refine db (xop_det hC) fun _=>?_|refine dbb (xop_det hC) fun _=>?_|split
theorem aop0_det {C:Ctx} {pl:Pol} {o:Oper} {S:St} (hC:CDet C):Det (aop0 C pl o S):=by
  unfold aop0
  repeat' first
    |exact dF|exact dF2|exact dF3|exact dR _|exact dR2 _ _|exact dR3 _ _ _|refine dC ?_|refine dC2 ?_|refine dC3 ?_|exact pop1_det|refine db pop1_det fun _=>?_
    |refine dbb pop1_det fun _=>?_|exact rop1_det hC|refine db (rop1_det hC) fun _=>?_|refine dbb (rop1_det hC) fun _=>?_|exact wop1_det|refine db wop1_det fun _=>?_
    |refine dbb wop1_det fun _=>?_|exact xop_det hC|refine db (xop_det hC) fun _=>?_|refine dbb (xop_det hC) fun _=>?_|split
theorem aop_det {C:Ctx} {pl:Pol} {o:Oper} {S:St} (hC:CDet C):Det (aop C pl o S):=by
  unfold aop
  split
  · exact own1_det
  · exact aop0_det hC
theorem aopY_det {C:Ctx} {pl:Pol} {o:Oper} {S:St} (hC:CDet C):Det (aopY C pl o S):=by
  unfold aopY
  split
  · exact db getsK_det fun _=>dC (dd (hC.ycall _ _ _) fun _ _=>dd (killTL_det _ _ _) fun _ _=>putK_det)
  · exact aop_det hC
theorem guardAt_det {d:Nat} {S:St}:Det2 (guardAt d S):=by
  unfold guardAt
  repeat' first
    |exact dF|exact dF2|exact dF3|exact dR _|exact dR2 _ _|exact dR3 _ _ _|refine dC ?_|refine dC2 ?_|refine dC3 ?_|refine Det.fork ?_ ?_|refine Det2.fork ?_ ?_
    |exact nthK_det|refine db nthK_det fun _=>?_|refine dbb nthK_det fun _=>?_|exact setK_det|refine db setK_det fun _=>?_|refine dbb setK_det fun _=>?_
    |split
theorem dopc_det {C:Ctx} {pl:Pol} {all:Array Oper} {o:Oper} {S:St} (hC:CDet C):Det (dopc C pl all o S):=by
  unfold dopc
  repeat' first
    |exact dF|exact dF2|exact dF3|exact dR _|exact dR2 _ _|exact dR3 _ _ _|refine dC ?_|refine dC2 ?_|refine dC3 ?_|exact dop_det hC|refine db (dop_det hC) fun _=>?_
    |refine dbb (dop_det hC) fun _=>?_|split
theorem ag_det {C:Ctx} {pl:Pol} {all:Array Oper} {o:Oper} {S:St} (hC:CDet C):Det (ag C pl all o S):=by
  unfold ag
  repeat' first
    |exact dF|exact dF2|exact dF3|exact dR _|exact dR2 _ _|exact dR3 _ _ _|refine dC ?_|refine dC2 ?_|refine dC3 ?_|exact dopc_det hC|refine db (dopc_det hC) fun _=>?_
    |refine dbb (dopc_det hC) fun _=>?_|exact guardAt_det|refine dd guardAt_det fun _ _=>?_|refine ddd guardAt_det fun _ _=>?_|exact putK_det|refine db putK_det fun _=>?_
    |refine dbb putK_det fun _=>?_|exact dop_det hC|refine db (dop_det hC) fun _=>?_|refine dbb (dop_det hC) fun _=>?_|refine Det.gsel ?_ ?_|split
theorem aops_det {C:Ctx} {pl:Pol} {all:Array Oper} (hC:CDet C):∀ (os:List Oper) (S:St),Det (aops C pl all os S)
  | [],S=>by
    show Det (fun K=>aops C pl all [] S K)
    unfold aops
    repeat' first
      | exact Det.failN
      | exact Det2.failN
      | exact Det3.failN
      | exact Det.ret _
      | exact Det2.ret _ _
      | exact Det3.ret _ _ _
      | refine Det.chk ?_
      | refine Det2.chk ?_
      | refine Det3.chk ?_
      | exact aops_det hC _ _
      | refine db (aops_det hC _ _) fun _=>?_
      | refine dbb (aops_det hC _ _) fun _=>?_
      | exact aopY_det hC
      | refine db (aopY_det hC) fun _=>?_
      | refine dbb (aopY_det hC) fun _=>?_
      | exact guardAt_det
      | refine dd guardAt_det fun _ _=>?_
      | refine ddd guardAt_det fun _ _=>?_
      | exact putK_det
      | refine db putK_det fun _=>?_
      | refine dbb putK_det fun _=>?_
      | refine Det.gsel ?_ ?_
      | split
  | x::xs,S=>by
    show Det (fun K=>aops C pl all (x::xs) S K)
    unfold aops
    repeat' first
      | exact Det.failN
      | exact Det2.failN
      | exact Det3.failN
      | exact Det.ret _
      | exact Det2.ret _ _
      | exact Det3.ret _ _ _
      | refine Det.chk ?_
      | refine Det2.chk ?_
      | refine Det3.chk ?_
      | exact aops_det hC _ _
      | refine db (aops_det hC _ _) fun _=>?_
      | refine dbb (aops_det hC _ _) fun _=>?_
      | exact aopY_det hC
      | refine db (aopY_det hC) fun _=>?_
      | refine dbb (aopY_det hC) fun _=>?_
      | exact guardAt_det
      | refine dd guardAt_det fun _ _=>?_
      | refine ddd guardAt_det fun _ _=>?_
      | exact putK_det
      | refine db putK_det fun _=>?_
      | refine dbb putK_det fun _=>?_
      | refine Det.gsel ?_ ?_
      | split
theorem addK_det:∀ (xs:List (Nat×TypeId)) (P:Program) (S:St),Det (addK P xs S)
  | [],P,S=>by
    show Det (fun K=>addK P [] S K)
    unfold addK
    repeat' first
      | exact Det.failN
      | exact Det2.failN
      | exact Det3.failN
      | exact Det.ret _
      | exact Det2.ret _ _
      | exact Det3.ret _ _ _
      | refine Det.chk ?_
      | refine Det2.chk ?_
      | refine Det3.chk ?_
      | exact addK_det _ _ _
      | refine db (addK_det _ _ _) fun _=>?_
      | refine dbb (addK_det _ _ _) fun _=>?_
      | exact zeroRow_det
      | refine db zeroRow_det fun _=>?_
      | refine dbb zeroRow_det fun _=>?_
      | split
  | (d,e)::xs,P,S=>by
    show Det (fun K=>addK P ((d,e)::xs) S K)
    unfold addK
    repeat' first
      | exact Det.failN
      | exact Det2.failN
      | exact Det3.failN
      | exact Det.ret _
      | exact Det2.ret _ _
      | exact Det3.ret _ _ _
      | refine Det.chk ?_
      | refine Det2.chk ?_
      | refine Det3.chk ?_
      | exact addK_det _ _ _
      | refine db (addK_det _ _ _) fun _=>?_
      | refine dbb (addK_det _ _ _) fun _=>?_
      | exact zeroRow_det
      | refine db zeroRow_det fun _=>?_
      | refine dbb zeroRow_det fun _=>?_
      | split
theorem preK_det {P:Program} {xs:List (Nat×TypeId)} {S:St}:Det (preK P xs S):=by
  unfold preK
  repeat' first
    |exact dF|exact dF2|exact dF3|exact dR _|exact dR2 _ _|exact dR3 _ _ _|refine dC ?_|refine dC2 ?_|refine dC3 ?_|exact dropsK_det _ _|refine db (dropsK_det _ _) fun _=>?_
    |refine dbb (dropsK_det _ _) fun _=>?_|exact addK_det _ _ _|refine db (addK_det _ _ _) fun _=>?_|refine dbb (addK_det _ _ _) fun _=>?_|split
theorem postK_out:∀ {xs:List (Nat×TypeId)} {S:St} {X:Prop},postK xs S X→X∧∀ X',X'→postK xs S X'
  | [],_,_,h=>⟨h,fun _ h=>h⟩
  | (d,e)::xs,S,X,h=>by
    obtain ⟨a,h1,h2⟩:=nthK_iff.1 h
    split at h2
    · rename_i d' i j
      obtain ⟨hb,h2⟩:=Chk_elim h2
      obtain ⟨h3,h4⟩:=postK_out h2
      refine ⟨h3,fun X' h=>nthK_iff.2 ⟨_,h1,?_⟩⟩
      exact Chk_intro hb (h4 X' h)
    · exact False.elim h2
theorem dgo_det {C:Ctx} (hC:CDet C) {pl:Pol} {ops:Array Oper} {i:Nat} {S:St}:Det (dgo C pl ops i S):=by
  show Det (fun K:St→Prop=>dgo C pl ops i S K)
  unfold dgo
  split
  · exact Det.failN
  · exact ag_det hC
theorem sameS_det {S2 S1:St} {X:(St→Prop)→Prop} (h:Det X):Det (fun K=>sameS S2 S1 (X K)):=by
  unfold sameS
  split
  · exact h
  · exact fun K hk=>by
      obtain ⟨r,h1,h2⟩:=h K hk.2
      exact ⟨r,h1,fun K' hk'=>⟨hk.1,h2 K' hk'⟩⟩
theorem dall_det {go:Nat→(St→Prop)→Prop} (hg:∀ i,Det (go i)):∀ (is:List Nat) (S1:St),Det (fun K:St→Prop=>dall go is S1 (K S1))
  | [],S1=>Det.ret S1
  | i::is,S1=>by
    show Det (fun K:St→Prop=>go i fun S2=>sameS S2 S1 (dall go is S1 (K S1)))
    exact Det.bind (hg i) (fun S2=>sameS_det (dall_det hg is S1))
theorem dAny_det {C:Ctx} (hC:CDet C) {pl:Pol} {ops:Array Oper} {ws:List Nat}:∀ (n:Nat) (listed:Array Bool) (S:St),Det (dAny C pl ops ws n listed S)
  | 0,listed,S=>by
    show Det (fun K:St→Prop=>dAny C pl ops ws 0 listed S K)
    unfold dAny
    split
    · exact Det.ret S
    · exact Det.failN
  | n + 1,listed,S=>by
    show Det (fun K:St→Prop=>dAny C pl ops ws (n + 1) listed S K)
    unfold dAny
    split
    · exact Det.ret S
    · split
      · exact Det.bind (dgo_det hC) (fun S'=>dAny_det hC n _ S')
      · refine Det.bind (dgo_det hC) (fun S'=>Det.bind (dAny_det hC n _ S') (fun S1=>?_))
        exact dall_det (fun i=>Det.bind (dgo_det hC) (fun S'=>dAny_det hC n _ S')) _ S1
theorem dPre_det {C:Ctx} (hC:CDet C) {pl:Pol} {ops:Array Oper} {ws:List Nat}:∀ (n:Nat) (listed:Array Bool) (S:St),Det (dPre C pl ops ws n listed S)
  | 0,listed,S=>dAny_det (pl:=pl) (ws:=ws) hC 0 listed S
  | n + 1,listed,S=>by
    show Det (fun K:St→Prop=>dPre C pl ops ws (n + 1) listed S K)
    unfold dPre
    split
    · exact Det.bind (dgo_det hC) (fun S'=>dPre_det hC n _ S')
    · exact dAny_det hC _ _ _
theorem dAll_det {C:Ctx} (hC:CDet C) {pl:Pol} {ops:Array Oper} {S:St}:Det (dAll C pl ops S):=by
  show Det (fun K:St→Prop=>dAll C pl ops S K)
  unfold dAll
  refine Det.chk ?_
  split
  · exact dAny_det hC _ _ _
  · exact dPre_det hC _ _ _
theorem rangeK_det {C:Ctx} (hC:CDet C) {pl:Pol} {g:Operand} {ps:Array Tmp} {asg body:Code} {S:St}:Det2 (rangeK C pl g ps asg body S):=by
  show Det2 (fun K=>rangeK C pl g ps asg body S K)
  unfold rangeK
  split
  · exact Det2.failN
  · refine dbb getK_det fun gv=>?_
    split
    · refine dC2 (dbb (.of_iff fun _=>forceAL_iff) fun t0=>ddd (hC.scall _ _ _) fun _ o'=>ddd (killTL_det _ _ _) fun t l=>?_)
      split
      · refine dbb (killIds_det _ _) fun S'=>?_
        split
        · exact dR2 _ _
        · exact dR2 _ _
        · exact dR2 _ _
      · exact Det2.failN
    · exact Det2.failN
theorem acode_det {C:Ctx} (hC:CDet C) {pl:Pol}:∀ (c:Code) {S:St},Det2 (acode C pl c S):=by
  intro c
  induction c with
  | skip=>exact Det2.ret Ex.nrm _
  | region id ops draw =>
    intro S
    cases draw with
    | false =>
      show Det2 (fun (K:Ex→St→Prop)=>aops C pl ops ops.toList S fun S'=>postR pl id S' fun S''=>K .nrm S'')
      exact Det.bind2 (aops_det hC _ _) (fun S'=>Det.bind2 postR_det (fun S''=>Det2.ret Ex.nrm S''))
    | true =>
      show Det2 (fun (K:Ex→St→Prop)=>Chk (drawB pl ops) (preK C.P (allocs ops.toList) S fun S1=>dAll C pl ops S1 fun S'=>postK (allocs ops.toList) S' (postR pl id S' fun S''=>K .nrm S'')))
      refine Det2.chk (Det.bind2 preK_det (fun S1=>Det.bind2 (dAll_det hC) (fun S'=>?_)))
      intro K h
      obtain ⟨h1,h2⟩:=postK_out h
      obtain ⟨S'',h3,h4⟩:=postR_det _ h1
      exact ⟨_,_,h3,fun K' hk=>h2 _ (h4 _ hk)⟩
  | seq x y ihx ihy =>
    intro S
    show Det2 (fun (K:Ex→St→Prop)=>acode C pl x S fun e S'=>match e with
      | .nrm=>acode C pl y S' K
      | .ex i=>K (.ex i) S'
      | .ret=>K .ret S')
    refine Det2.bind2 ihx (fun e S'=>?_)
    cases e with
    | nrm=>exact ihy
    | ex i=>exact Det2.ret _ _
    | ret=>exact Det2.ret _ _
  | cond c x y ihx ihy =>
    intro S
    show Det2 (fun (K:Ex→St→Prop)=>boolOf c S fun b S'=>match b with
      | true=>acode C pl x S' K
      | false=>acode C pl y S' K)
    refine Det2.bind2 boolOf_det (fun b S'=>?_)
    cases b with
    | true=>exact ihx
    | false=>exact ihy
  | block id c ih =>
    intro S
    show Det2 (fun (K:Ex→St→Prop)=>acode C pl c S fun e S'=>match e with
      | .ex i=>match Nat.beq i id with | true=>K .nrm S' | false=>K (.ex i) S'
      | .nrm=>K .nrm S'
      | .ret=>K .ret S')
    refine Det2.bind2 ih (fun e S'=>?_)
    cases e with
    | nrm=>exact Det2.ret _ _
    | ret=>exact Det2.ret _ _
    | ex i =>
      show Det2 (fun (K:Ex→St→Prop)=>match Nat.beq i id with | true=>K .nrm S' | false=>K (.ex i) S')
      split
      · exact Det2.ret _ _
      · exact Det2.ret _ _
  | loop c ih=>exact hC.loop _ _ _
  | exit id=>exact Det2.ret (Ex.ex id) _
  | ret=>exact Det2.ret Ex.ret _
  | rangeFunc g ps asg body=>exact fun {S}=>rangeK_det hC
  | _=>exact fun K h=>False.elim h
theorem resK_det {P:Program} {S:St}:∀ {rs:List ResultVar},Det (resK P S rs)
  | []=>Det.ret _
  | .tmp t::rs=>by
    show Det (fun K=>nthK S.t t fun a=>resK P S rs fun as=>K (a::as))
    exact Det.bind nthK_det (fun a=>Det.bind resK_det (fun as=>Det.ret (a::as)))
  | .cell c t::rs=>by
    show Det (fun K=>nthK S.t c fun p=>atK S p fun row j=>partK P t row j fun x=>resK P S rs fun as=>K (x::as))
    exact Det.bind nthK_det (fun a=>Det2.bind atK_det (fun row j=>Det.bind partK_det (fun x=>Det.bind resK_det (fun as=>Det.ret (x::as)))))
theorem tupK_det {as:List AV}:Det (tupK as):=by
  unfold tupK
  split <;> exact Det.ret _
theorem abody_det {C:Ctx} (hC:CDet C) {f:Nat} {args:List AV} {o:List Ob}:Det2 (abody C f args o):=by
  show Det2 (fun K:AV→St→Prop=>abody C f args o K)
  have e:(fun K:AV→St→Prop=>abody C f args o K)=fun K=>abody0 C f args o K:=by funext K; exact propext abody_iff
  rw [e]
  unfold abody0
  split
  · rename_i fn _
    have resDet:∀ {S:St},Det2 (fun K:AV→St→Prop=>resK C.P S fn.results.toList fun rs=>tupK rs fun r=>K r S):=fun {S}=>Det.bind2 resK_det (fun rs=>Det.bind2 tupK_det (fun r=>Det2.ret r S))
    split
    · have e2:∀ (p:Pol) (k:Pol→(AV→St→Prop)→Prop),(fun K=>forceP p fun pl=>k pl K)=fun K=>k p K:=fun p k=>by funext K; exact propext forceP_iff
      rw [e2]
      refine Det2.bind2 (acode_det hC _) (fun e S=>?_)
      cases e with
      | ex i=>exact Det2.failN
      | nrm=>exact resDet
      | ret=>exact resDet
    · exact Det2.failN
  · exact Det2.failN
theorem apure_det {C:Ctx} (hC:CDet C) {f:Nat} {args:List AV}:Det (apure C f args):=Det2.bind (abody_det hC) (fun _ _=>dfzK_det)
theorem astore_det {C:Ctx} (hC:CDet C) {f:Nat} {args:List AV} {o:List Ob}:Det2 (astore C f args o):=by
  show Det2 (fun (K:AV→List Ob→Prop)=>abody C f args o fun r S=>Chk (noL 4 r&&Nat.beq S.b o.length) (K r S.o))
  exact Det2.bind2 (abody_det hC) (fun _ _=>Det2.chk (Det2.ret _ _))
structure XOK (cfg:Cfg):Prop where
  sound:∀ f args o K,cfg.xc f args o K→SCall cfg.P f args o K
  det:∀ f args o,Det2 (cfg.xc f args o)
  pure:∀ f args r,cfg.xq f args=some r→PureEq cfg.P f args r
theorem XOK.none {cfg:Cfg} (h:cfg.xc=fun _ _ _ _=>False) (hq:cfg.xq=fun _ _=>none):XOK cfg:=⟨fun f args o K hk=>(by rw [h] at hk; exact hk.elim),fun f args o=>(by rw [h]; exact Det2.failN (n:=0)),fun f args r e=>(by rw [hq] at e; cases e)⟩
theorem yround_det {C:Ctx} (hC:CDet C) {id:Nat} {args:List AV} {o:List Ob}:Det2 (yround C id args o):=by
  show Det2 (fun K=>yround C id args o K)
  unfold yround
  split
  · refine dC2 (dbb killL_det fun t1=>dbb killL_det fun as=>dbb killObs_det fun o0=>dbb forceO_det fun o1=>Det2.bind2 (acode_det hC _) fun e S=>?_)
    cases e with
    | ex i=>exact Det2.failN
    | ret=>exact Det2.failN
    | nrm =>
      refine Det2.bind2 (acode_det hC _) fun e2 S2=>dC2 ?_
      split
      · exact Det2.bind2 (killTL_det _ _ _) fun _ _=>dbb forceO_det fun _=>dR2 _ _
      · exact Det2.failN
  · exact Det2.failN
theorem ctxN_det {cfg:Cfg} (hX:XOK cfg):∀ n,CDet (ctxN cfg n)
  | 0=>⟨fun _ _=>Det.failN (n:=123),fun _ _ _=>Det2.failN (n:=124),fun _ _ _=>Det2.failN (n:=125),fun _ _ _=>Det2.failN (n:=0)⟩
  | n + 1=>⟨fun f args=>by
      show Det fun K=>match cfg.xq f args with | some r=>K r | none=>apure (ctxN cfg n) f args K
      cases cfg.xq f args with
      | some r=>exact Det.ret r
      | none=>exact apure_det (ctxN_det hX n),fun f args o=>by
      show Det2 fun K=>match cfg.xs f with | true=>cfg.xc f args o K | false=>astore (ctxN cfg n) f args o K
      cases cfg.xs f with
      | true=>exact hX.det _ _ _
      | false=>exact astore_det (ctxN_det hX n),fun pl c S=>by
      have e0:(fun (K:Ex→St→Prop)=>forceC (ctxN cfg n) fun C=>acode C pl c S fun e S'=>match e with
        | .nrm=>C.loop pl c S' K
        | .ex i=>K (.ex i) S'
        | .ret=>K .ret S')=fun K=>acode (ctxN cfg n) pl c S fun e S'=>match e with
        | .nrm=>(ctxN cfg n).loop pl c S' K
        | .ex i=>K (.ex i) S'
        | .ret=>K .ret S':=by funext K; exact propext forceC_iff
      show Det2 (fun (K:Ex→St→Prop)=>forceC (ctxN cfg n) fun C=>acode C pl c S fun e S'=>match e with
        | .nrm=>C.loop pl c S' K
        | .ex i=>K (.ex i) S'
        | .ret=>K .ret S')
      rw [e0]
      refine Det2.bind2 (acode_det (ctxN_det hX n) c) (fun e S'=>?_)
      cases e with
      | nrm=>exact (ctxN_det hX n).loop _ _ _
      | ex i=>exact Det2.ret _ _
      | ret=>exact Det2.ret _ _,fun id args o=>by
      have e0:(fun (K:AV→List Ob→Prop)=>forceC (ctxN cfg n) fun C=>yround C id args o K)=fun K=>yround (ctxN cfg n) id args o K:=by funext K; exact propext forceC_iff
      show Det2 (fun (K:AV→List Ob→Prop)=>forceC (ctxN cfg n) fun C=>yround C id args o K)
      rw [e0]
      exact yround_det (ctxN_det hX n)⟩
theorem ctxN_apure {cfg:Cfg} (hX:XOK cfg) (n:Nat):ApureDet (ctxN cfg n):=fun f args K h=>by
  obtain ⟨r,h1,h2⟩:=apure_det (ctxN_det hX n) K h
  exact ⟨r,h1,h2 _ rfl⟩
def appS (S:St) (dst:Option Tmp) (v:AV) (m:Option St):St :=
  setT (match m with | none=>S | some M=>withM S M) dst v
def memEq (S S2:St):Prop:=S2.l=S.l∧S2.o=S.o∧S2.b=S.b
theorem memEq.refl (S:St):memEq S S:=⟨rfl,rfl,rfl⟩
theorem memEq.symm {S S2:St} (h:memEq S S2):memEq S2 S:=⟨h.1.symm,h.2.1.symm,h.2.2.symm⟩
theorem memEq.trans {S S2 S3:St} (h:memEq S S2) (k:memEq S2 S3):memEq S S3:=⟨k.1.trans h.1,k.2.1.trans h.2.1,k.2.2.trans h.2.2⟩
def opsAgree (xs:List Operand) (S S2:St):Prop:=∀ d,Operand.tmp d∈xs→S2.t[d]?=S.t[d]?
theorem getK_congr {S S2:St} {x:Operand} {k:AV→Prop} (h:getK S x k) (ha:∀ d,x=.tmp d→S2.t[d]?=S.t[d]?):getK S2 x k:=by
  unfold getK at *
  split at h
  · rename_i d
    obtain ⟨c,hc,hk⟩:=nthK_iff.1 h
    exact nthK_iff.2 ⟨c,by rw [ha d rfl]; exact hc,hk⟩
  · exact h
  · exact h
  · exact h
theorem getsK_congr {S S2:St}:∀ {xs:List Operand} {k:List AV→Prop},getsK S xs k→opsAgree xs S S2→getsK S2 xs k
  | [],_,h,_=>h
  | x::xs,k,h,ha=>by
    obtain ⟨c,h1,h2⟩:=getK_det _ h
    have hx:getK S2 x fun a=>getsK S2 xs fun as=>k (a::as):=by
      refine getK_congr (S:=S) (h2 _ ?_) (fun d e=>ha d (by rw [← e]; exact List.mem_cons_self))
      exact getsK_congr h1 (fun d hd=>ha d (List.mem_cons_of_mem _ hd))
    exact hx
def Looks (site:Option Nat) (S S2:St):Prop :=
  match site with
  | some r=>lookL S2.l r=lookL S.l r
  | none=>S2.o=S.o
def Turns (site:Option Nat) (S M:St):Prop :=
  match site with
  | some r'=>M.o=S.o∧∀ r,r≠r'→lookL M.l r=lookL S.l r
  | none=>M.l=S.l
theorem Looks.of {site:Option Nat} {S S2:St} (h:memEq S S2):Looks site S S2:=by
  cases site with
  | some r=>show lookL S2.l r=_; rw [h.1]
  | none=>exact h.2.1
theorem Looks.symm {site:Option Nat} {S S2:St} (h:Looks site S S2):Looks site S2 S:=by
  cases site with
  | some r=>exact Eq.symm h
  | none=>exact Eq.symm h
theorem Looks.trans {site:Option Nat} {S S2 S3:St} (h:Looks site S S2) (k:Looks site S2 S3):Looks site S S3:=by
  cases site with
  | some r=>exact Eq.trans k h
  | none=>exact Eq.trans k h
def RdOK (pl:Pol) (ops:Array Oper) (o:Oper) (S S2:St):Prop :=
  (clsD pl o=1→Looks (siteOf pl ops o) S S2)∧(clsD pl o=2→memEq S S2)
theorem RdOK.of {pl:Pol} {ops:Array Oper} {o:Oper} {S S2:St} (h:memEq S S2):RdOK pl ops o S S2:=⟨fun _=>.of h,fun _=>h⟩
def Keep (pl:Pol) (ops:Array Oper) (o:Oper) (S:St) (m:Option St):Prop :=
  (clsD pl o≠2→m=none)∧∀ M,m=some M→Turns (siteOf pl ops o) S M
def DEff (C:Ctx) (pl:Pol) (ops:Array Oper) (o:Oper) (S:St) (v:AV) (m:Option St):Prop :=
  Keep pl ops o S m∧∀ S2,opsAgree o.op.operands.toList S S2→RdOK pl ops o S S2→∀ K2:St→Prop,K2 (appS S2 o.dst v m)→dopc C pl ops o S2 K2
theorem memOf_eq {S S2:St} (h:memEq S S2):memOf S2=memOf S:=by
  unfold memOf
  rw [h.1,h.2.1,h.2.2]
theorem addrOf_mem {o:Oper} {t:Nat} (h:addrOf o=some t):Operand.tmp t∈o.op.operands.toList:=by
  unfold addrOf at h
  split at h
  · rename_i ty x ho
    cases h
    rw [ho]
    simp [Op.operands]
  · rename_i ty x y ho
    cases h
    rw [ho]
    simp [Op.operands]
  · cases h
theorem siteOf_addr {pl:Pol} {ops:Array Oper} {o:Oper} {r:Nat} (h:siteOf pl ops o=some r):∃ t,addrOf o=some t:=by
  unfold siteOf at h
  split at h
  · rename_i t ht
    exact ⟨t,ht⟩
  · cases h
theorem keyChk_congr {pl:Pol} {ops:Array Oper} {o:Oper} {S S2:St} (ha:opsAgree o.op.operands.toList S S2):keyChk pl ops o S2=keyChk pl ops o S:=by
  unfold keyChk
  cases ht:addrOf o with
  | none=>rfl
  | some t =>
    dsimp only
    rw [ha t (addrOf_mem ht)]
theorem keyChk_ptr {pl:Pol} {ops:Array Oper} {o:Oper} {S:St} {t:Nat} (h:keyChk pl ops o S=true) (ht:addrOf o=some t):∃ c,S.t[t]?=some c∧inSite c (siteOf pl ops o)=true:=by
  unfold keyChk at h
  rw [ht] at h
  dsimp only at h
  split at h
  · rename_i c hc
    exact ⟨c,hc,h⟩
  · cases h
theorem inSite_some {c:AV} {r:Nat} (h:inSite c (some r)=true):∃ i j,c=.ptr (.L r) i j:=by
  unfold inSite at h
  split at h
  · rename_i d i j r' hr
    cases hr
    have:=Nat.eq_of_beq_eq_true h
    subst this
    exact ⟨i,j,rfl⟩
  · rename_i hr; cases hr
  · rename_i hr; cases hr
  · cases h
theorem inSite_none {c:AV} (h:inSite c none=true):(∃ id i j,c=.ptr (.O id) i j)∨∃ row j,c=.fptr row j:=by
  unfold inSite at h
  split at h
  · rename_i hr; cases hr
  · rename_i id i j _; exact .inl ⟨id,i,j,rfl⟩
  · rename_i row j _; exact .inr ⟨row,j,rfl⟩
  · cases h
theorem rop_load {C:Ctx} {o:Oper} {ty:TypeId} {x:Operand} (ho:o.op=.load ty x) {r i j:Nat} {M M2:St} (h:lookL M2.l r=lookL M.l r) {k:AV→Prop} (hk:rop C o [.ptr (.L r) i j] M k):rop C o [.ptr (.L r) i j] M2 k:=by
  unfold rop at hk ⊢
  rw [ho] at hk ⊢
  unfold atK rowK at hk ⊢
  dsimp only at hk ⊢
  rw [h]
  exact hk
theorem rop_loadO {C:Ctx} {o:Oper} {ty:TypeId} {x:Operand} (ho:o.op=.load ty x) {c:AV} (hc:inSite c none=true) {M M2:St} (h:M2.o=M.o) {k:AV→Prop} (hk:rop C o [c] M k):rop C o [c] M2 k:=by
  unfold rop at hk ⊢
  rw [ho] at hk ⊢
  rcases inSite_none hc with ⟨id,i,j,rfl⟩ | ⟨row,j,rfl⟩
  · unfold atK rowK at hk ⊢
    dsimp only at hk ⊢
    rw [h]
    exact hk
  · exact hk
theorem rowsK_o {size:Nat} {x:AV} {S S2:St} (h:S2.o=S.o) {k:Bool→List (List AV)→Prop}:rowsK size S x k→rowsK size S2 x k:=by
  obtain ⟨t,l,oo,b⟩:=S
  obtain ⟨t2,l2,oo2,b2⟩:=S2
  have h':oo2=oo:=h
  subst h'
  unfold rowsK
  split <;> exact fun h=>h
theorem convertSK_o {P:Program} {src dst:TypeId} {x:AV} {S S2:St} (h:S2.o=S.o) {k:AV→Prop}:convertSK P src dst x S k→convertSK P src dst x S2 k:=by
  unfold convertSK
  split
  · split
    · intro hk
      obtain ⟨h1,h2⟩:=Chk_elim hk
      exact Chk_intro h1 (rowsK_o h h2)
    · exact fun h=>h
  · exact fun h=>h
theorem rop_o {C:Ctx} {o:Oper} (ho:∀ ty x,o.op≠.load ty x) {vs:List AV} {M M2:St} (h:M2.o=M.o) {k:AV→Prop}:rop C o vs M k→rop C o vs M2 k:=by
  obtain ⟨t,l,oo,b⟩:=M
  obtain ⟨t2,l2,oo2,b2⟩:=M2
  have h':oo2=oo:=h
  subst h'
  unfold rop
  split
  all_goals first
    | exact fun h=>h
    | exact convertSK_o rfl
    | (exfalso; rename_i h1; exact ho _ _ h1)
    | (exfalso; rename_i h1 _; exact ho _ _ h1)
theorem getsK_glob {S:St} {g:Nat} {xs:List Operand} {k:List AV→Prop} (h:getsK S (.global g::xs) k):∃ row,getsK S xs fun as=>k (.fptr row 0::as):=by
  have h':getK S (.global g) fun a=>getsK S xs fun as=>k (a::as):=h
  cases hg:gTab g with
  | none=>simp only [getK,hg] at h'; exact False.elim h'
  | some row=>simp only [getK,hg] at h'; exact ⟨row,h'⟩
theorem getsK_one {S:St} {t:Nat} {k:List AV→Prop} {a:AV} (ha:S.t[t]?=some a) (h:getsK S [.tmp t] k):k [a]:=by
  obtain ⟨c,hc,h⟩:=nthK_iff.1 h
  rw [ha] at hc
  cases hc
  exact h
theorem getsK_two {S:St} {t:Nat} {y:Operand} {k:List AV→Prop} {a:AV} (ha:S.t[t]?=some a) (h:getsK S [.tmp t,y] k):∃ b,k [a,b]:=by
  obtain ⟨c,hc,h⟩:=nthK_iff.1 h
  rw [ha] at hc
  cases hc
  obtain ⟨b,h1,_⟩:=getK_det _ h
  exact ⟨b,h1⟩
theorem wop_keep {C:Ctx} {o:Oper} {c:AV} {site:Option Nat} {y:AV} {M:St} {k:AV→St→Prop} (hs:inSite c site=true) (h:wop C o [c,y] M k):wop C o [c,y] M fun v M'=>k v M'∧Turns site M M':=by
  obtain ⟨v,M',h1,h2⟩:=wop_det _ h
  refine h2 _ ⟨h1,?_⟩
  have h3:=h2 (fun _ M''=>M''=M') rfl
  unfold wop at h3
  split at h3
  · rename_i ty X Y p z ho e
    cases e
    obtain ⟨cs,h4,_⟩:=cellsK_det _ h3
    split at h4
    · obtain ⟨_,h4⟩:=Chk_elim h4
      cases site with
      | some r' =>
        obtain ⟨i,j,rfl⟩:=inSite_some hs
        unfold storeK at h4
        dsimp only at h4
        split at h4
        · rename_i row hrow
          split at h4
          · obtain ⟨_,h4⟩:=Chk_elim h4
            rw [forceL_iff,forceLoc_iff] at h4
            subst h4
            refine ⟨rfl,fun r hr=>?_⟩
            show lookL (setL M.l r' _) r=_
            rw [lookL_set hrow,if_neg (fun e=>hr e.symm)]
          · exact False.elim h4
        · exact False.elim h4
      | none =>
        rcases inSite_none hs with ⟨id,i,j,rfl⟩ | ⟨row,j,rfl⟩
        · unfold storeK at h4
          dsimp only at h4
          split at h4
          · split at h4
            · obtain ⟨_,h4⟩:=Chk_elim h4
              rw [forceL_iff,forceO_iff] at h4
              subst h4
              rfl
            · exact False.elim h4
          · exact False.elim h4
        · exact False.elim h4
    · exact False.elim h4
  · exact False.elim h3
theorem makeSlice_keep {P:Program} {t:TypeId} {l c:AV} {M:St} {k:St→AV→Prop} (h:makeSliceK P t l c M k):makeSliceK P t l c M fun M' r=>k M' r∧M'.l=M.l:=by
  obtain ⟨M',r,h1,h2⟩:=makeSliceK_det _ h
  refine h2 _ ⟨h1,?_⟩
  have h3:=h2 (fun M'' _=>M''=M') rfl
  unfold makeSliceK at h3
  split at h3
  · split at h3
    · obtain ⟨n,h4,_⟩:=intOf_det _ h3
      obtain ⟨m,h5,_⟩:=intOf_det _ h4
      obtain ⟨_,h5⟩:=Chk_elim h5
      obtain ⟨z,h6,_⟩:=zeroRow_det _ h5
      obtain ⟨_,h6⟩:=Chk_elim h6
      rw [forceO_iff] at h6
      rw [← h6]
    · exact False.elim h3
  · exact False.elim h3
theorem ownTakeK_l {M:St} {pk:Bool} {id i:Nat} {k:AV→St→Prop} (h:ownTakeK M pk id i k) (hk:∀ v M',M'.l=M.l→k v M'→False):False:=by
  unfold ownTakeK at h
  split at h
  · split at h
    · exact hk _ _ (by rfl) h
    · split at h
      · exact hk _ _ (by rfl) h
      · rw [forceA_iff,forceO_iff] at h
        exact hk _ _ (by rfl) h
    · exact h
  · exact h
theorem ownLoadK_l {P:Program} {t:TypeId} {same pk:Bool} {M:St} {id i:Nat} {k:AV→St→Prop} (h:ownLoadK P t same pk M id i k) (hk:∀ v M',M'.l=M.l→k v M'→False):False:=by
  unfold ownLoadK at h
  split at h
  · split at h
    · obtain ⟨_,h⟩:=Chk_elim h
      obtain ⟨r,h,_⟩:=partK_det _ h
      exact hk _ _ (by rfl) h
    · exact h
  · refine ownTakeK_l h (fun v M' e h=>?_)
    obtain ⟨r,h,_⟩:=partK_det _ h
    exact hk _ _ e h
theorem ownStoreK_l {P:Program} {t:TypeId} {M:St} {id i:Nat} {v:AV} {K:St→Prop} (h:ownStoreK P t M id i v K) (hk:∀ M',M'.l=M.l→K M'→False):False:=by
  unfold ownStoreK at h
  split at h
  · obtain ⟨_,h⟩:=Chk_elim h
    rw [forceO_iff] at h
    exact hk _ (by rfl) h
  · exact h
theorem makeOwnK_l {P:Program} {t:TypeId} {nw:Bool} {j:Nat} {l c:AV} {M:St} {k:AV→St→Prop} (h:makeOwnK P nw j t l c M k) (hk:∀ v M',M'.l=M.l→k v M'→False):False:=by
  unfold makeOwnK at h
  split at h
  · split at h
    · split at h
      · obtain ⟨n,h,_⟩:=intOf_det _ h
        obtain ⟨m,h,_⟩:=intOf_det _ h
        obtain ⟨_,h⟩:=Chk_elim h
        obtain ⟨z,h,_⟩:=zeroRow_det _ h
        split at h
        · obtain ⟨_,h,_⟩:=placeO_det _ h
          exact hk _ _ (by rfl) h
        · exact h
      · exact h
    · exact h
  · exact h
theorem makeOwnMapK_l {P:Program} {t:TypeId} {M:St} {k:AV→St→Prop} (h:makeOwnMapK P t M k) (hk:∀ v M',M'.l=M.l→k v M'→False):False:=by
  unfold makeOwnMapK at h
  split at h
  · split at h
    · split at h
      · obtain ⟨_,h⟩:=Chk_elim h
        rw [forceO_iff] at h
        exact hk _ _ (by rfl) h
      · exact h
    · exact h
  · exact h
theorem ownLookK_l {P:Program} {t:TypeId} {m key:AV} {ok:Bool} {M:St} {k:AV→St→Prop} (h:ownLookK P t m key ok M k) (hk:∀ v M',M'.l=M.l→k v M'→False):False:=by
  unfold ownLookK at h
  split at h
  · split at h
    · split at h
      · obtain ⟨x,r,h,_⟩:=findK_det _ h
        split at h
        · refine ownTakeK_l h (fun v M' e h=>?_)
          obtain ⟨r,h,_⟩:=retOk_det _ h
          exact hk _ _ e h
        · obtain ⟨r,h,_⟩:=zeroOk_det _ h
          exact hk _ _ (by rfl) h
      · exact h
    · exact h
  · exact h
theorem ownUpdK_l {P:Program} {t:TypeId} {m key x:AV} {M:St} {K:St→Prop} (h:ownUpdK P t m key x M K) (hk:∀ M',M'.l=M.l→K M'→False):False:=by
  unfold ownUpdK at h
  split at h
  · split at h
    · split at h
      · obtain ⟨_,h⟩:=Chk_elim h
        obtain ⟨x,r,h,_⟩:=findK_det _ h
        obtain ⟨_,h⟩:=Chk_elim h
        split at h
        · obtain ⟨_,h⟩:=Chk_elim h
          rw [forceO_iff] at h
          exact hk _ (by rfl) h
        · split at h
          · rw [forceO_iff] at h
            exact hk _ (by rfl) h
          · exact h
      · exact h
    · exact h
  · exact h
theorem ownAtK_l {M:St} {x:AV} {X:Nat→Nat→Prop} (h:ownAtK M x X) (hk:∀ id i,X id i→False):False:=by
  unfold ownAtK at h
  split at h
  · split at h
    · exact hk _ _ h
    · exact h
  · exact h
theorem ownD_l {P:Program} {pl:Pol} {o:Oper} {vs:List AV} {M:St} {k:AV→St→Prop} (h:ownD P pl o vs M k) (hk:∀ v M',M'.l=M.l→k v M'→False):False:=by
  unfold ownD at h
  split at h
  · exact ownAtK_l h (fun _ _ h=>ownLoadK_l h hk)
  · exact ownAtK_l h (fun _ _ h=>ownStoreK_l h (fun M' e h=>hk _ _ e h))
  · exact makeOwnK_l h hk
  · exact makeOwnMapK_l h hk
  · exact ownLookK_l h hk
  · exact ownUpdK_l h (fun M' e h=>hk _ _ e h)
  · exact ownUpdK_l h (fun M' e h=>hk _ _ e h)
  · exact h
theorem ownD_keep {P:Program} {pl:Pol} {o:Oper} {vs:List AV} {M:St} {k:AV→St→Prop} (h:ownD P pl o vs M k):ownD P pl o vs M fun v M'=>k v M'∧M'.l=M.l:=by
  obtain ⟨v,M',h1,h2⟩:=ownD_det _ h
  refine h2 _ ⟨h1,?_⟩
  by_cases e:M'.l=M.l
  · exact e
  · exact (ownD_l (h2 (fun _ M''=>M''.l≠M.l) e) (fun _ _ e h=>h e)).elim
theorem ownD_ptr {P:Program} {pl:Pol} {o:Oper} {x:AV} {vs:List AV} {M:St} {k:AV→St→Prop} (h:ownD P pl o (x::vs) M k) (ht:(addrOf o).isSome=true):∀ d i j,x≠.ptr (.L d) i j:=by
  intro d i j e
  subst e
  unfold ownD at h
  unfold addrOf at ht
  split at h
  · rename_i he
    cases he
    exact h
  · rename_i he
    cases he
    exact h
  · rename_i ho _
    rw [ho] at ht
    cases ht
  · rename_i he
    cases he
  · rename_i ho _
    rw [ho] at ht
    cases ht
  · rename_i ho _
    rw [ho] at ht
    cases ht
  · rename_i ho _
    rw [ho] at ht
    cases ht
  · exact h
def memOp (pl:Pol) (o:Oper):Prop:=((∃ t X Y,o.op=.makeSlice t X Y)∨∃ c,o.op=.call c)∨ownOp pl o=true
theorem memOp_own {pl:Pol} {o:Oper} (h:¬ memOp pl o):ownOp pl o=false:=by
  cases e:ownOp pl o with
  | false=>rfl
  | true=>exact absurd (.inr e) h
theorem own_false {pl:Pol} {o:Oper} (h:clsD pl o≠2):ownOp pl o=false:=by
  cases e:ownOp pl o with
  | false=>rfl
  | true=>exact absurd (by unfold clsD; rw [e]) h
theorem wopD_store {C:Ctx} {pl:Pol} {o:Oper} {vs:List AV} {M:St} {k:AV→St→Prop} (h:¬ memOp pl o):wopD C pl o vs M k=wop C o vs M k:=by
  unfold wopD
  rw [memOp_own h]
  dsimp only
  unfold wopD0
  split
  · rename_i t X Y l c ho
    exact absurd (.inl (.inl ⟨t,X,Y,ho⟩)) h
  · rename_i c _ _ _ _ ho
    exact absurd (.inl (.inr ⟨c,ho⟩)) h
  · rfl
theorem wopD_keep {C:Ctx} (hC:CDet C) {pl:Pol} {o:Oper} {vs:List AV} {M:St} {k:AV→St→Prop} (hm:memOp pl o) (h:wopD C pl o vs M k):wopD C pl o vs M fun v M'=>k v M'∧M'.l=M.l:=by
  unfold wopD at h ⊢
  cases e:ownOp pl o with
  | true =>
    rw [e] at h
    exact ownD_keep h
  | false =>
    rw [e] at h
    have hm:(∃ t X Y,o.op=.makeSlice t X Y)∨∃ c,o.op=.call c:=by
      rcases hm with hm | hm
      · exact hm
      · rw [e] at hm; cases hm
    dsimp only at h ⊢
    unfold wopD0 at h ⊢
    split at h
    · rename_i t' X' Y' l c ho'
      exact makeSlice_keep h
    · split at h
      · obtain ⟨h1,h⟩:=Chk_elim h
        refine Chk_intro h1 ?_
        obtain ⟨r,o',h2,h3⟩:=hC.scall _ _ _ _ h
        refine h3 _ ?_
        obtain ⟨h4,h5⟩:=Chk_elim h2
        exact Chk_intro h4 ⟨h5,rfl⟩
      · exact h.elim
    · exfalso
      unfold wop at h
      split at h
      · rename_i heq x1 x2
        rcases hm with ⟨t,X,Y,ho⟩ | ⟨c,ho⟩ <;> (rw [ho] at heq; cases heq)
      · exact h
theorem cls_load {pl:Pol} {o:Oper} {ty:TypeId} {x:Operand} (hw:ownOp pl o=false) (ho:o.op=.load ty x):clsD pl o=1:=by
  unfold clsD
  rw [hw]
  dsimp only
  unfold clsD0
  rw [ho]
  dsimp only
  unfold cls
  rw [ho]
theorem cls_store {pl:Pol} {o:Oper} {ty:TypeId} {x y:Operand} (hw:ownOp pl o=false) (ho:o.op=.store ty x y):clsD pl o=2:=by
  unfold clsD
  rw [hw]
  dsimp only
  unfold clsD0
  rw [ho]
  dsimp only
  unfold cls
  rw [ho]
theorem memOp_site {C:Ctx} {pl:Pol} {ops:Array Oper} {o:Oper} {S:St} {vs:List AV} {k:AV→St→Prop} (hm:memOp pl o) (hkey:keyChk pl ops o S=true) (hget:getsK S o.op.operands.toList (fun x=>x=vs)) (h:wopD C pl o vs (memOf S) k):siteOf pl ops o=none:=by
  cases ht:addrOf o with
  | none=>unfold siteOf; rw [ht]
  | some t =>
    obtain ⟨c,hc1,hc2⟩:=keyChk_ptr hkey ht
    cases hs:siteOf pl ops o with
    | none=>rfl
    | some r =>
      exfalso
      rw [hs] at hc2
      obtain ⟨i,j,rfl⟩:=inSite_some hc2
      have hw:ownOp pl o=true:=by
        rcases hm with (⟨t',X,Y,ho⟩ | ⟨c,ho⟩) | hm
        · unfold addrOf at ht; rw [ho] at ht; cases ht
        · unfold addrOf at ht; rw [ho] at ht; cases ht
        · exact hm
      unfold wopD at h
      rw [hw] at h
      dsimp only at h
      have hx:∃ ys,vs=.ptr (.L r) i j::ys:=by
        unfold addrOf at ht
        split at ht
        · rename_i ty x ho
          cases ht
          have hop:o.op.operands.toList=[.tmp t]:=by rw [ho]; simp [Op.operands]
          rw [hop] at hget
          exact ⟨[],(getsK_one hc1 hget).symm⟩
        · rename_i ty x y ho
          cases ht
          have hop:o.op.operands.toList=[.tmp t,y]:=by rw [ho]; simp [Op.operands]
          rw [hop] at hget
          obtain ⟨b,hb⟩:=getsK_two hc1 hget
          exact ⟨[b],hb.symm⟩
        · cases ht
      obtain ⟨ys,rfl⟩:=hx
      exact ownD_ptr h (by rw [ht]; rfl) r i j rfl
theorem addr_load {pl:Pol} {o:Oper} {t:Nat} (h:addrOf o=some t) (hc:clsD pl o=1):∃ ty,o.op=.load ty (.tmp t):=by
  unfold addrOf at h
  split at h
  · rename_i ty x ho
    cases h
    exact ⟨ty,ho⟩
  · rename_i ty x y ho
    rw [cls_store (own_false (by rw [hc]; decide)) ho] at hc
    cases hc
  · cases h
theorem addr_store {pl:Pol} {o:Oper} {t:Nat} (h:addrOf o=some t) (hw:ownOp pl o=false) (hc:clsD pl o=2):∃ ty y,o.op=.store ty (.tmp t) y:=by
  unfold addrOf at h
  split at h
  · rename_i ty x ho
    rw [cls_load hw ho] at hc
    cases hc
  · rename_i ty x y ho
    cases h
    exact ⟨ty,y,ho⟩
  · cases h
theorem dop_eff {C:Ctx} (hC:CDet C) {pl:Pol} {ops:Array Oper} {o:Oper} {S:St} {K:St→Prop} (hez:easy (clsD pl o)=true) (h:dopc C pl ops o S K):∃ v m,DEff C pl ops o S v m∧K (appS S o.dst v m):=by
  obtain ⟨hkey,h⟩:=Chk_elim h
  have fin:∀ {S2:St} {K2:St→Prop},opsAgree o.op.operands.toList S S2→dop C pl o S2 K2→dopc C pl ops o S2 K2:=fun ha h=>Chk_intro (by rw [keyChk_congr ha]; exact hkey) h
  unfold dop at h
  split at h
  · rename_i hc
    obtain ⟨vs,h1,h2⟩:=getsK_det _ h
    obtain ⟨r,h3,h4⟩:=pop_det _ h1
    rw [putK_iff] at h3
    refine ⟨r,none,⟨⟨fun _=>rfl,fun M e=>by cases e⟩,fun S2 ha _ K2 hk=>fin ha ?_⟩,h3⟩
    unfold dop
    rw [hc]
    refine getsK_congr (S:=S) (h2 (fun vs=>pop C pl o vs fun r=>putK o.dst r S2 K2) (h4 _ ?_)) ha
    rw [putK_iff]
    exact hk
  · rename_i hc
    obtain ⟨vs,h1,h2⟩:=getsK_det _ h
    obtain ⟨r,h3,h4⟩:=rop_det hC _ h1
    rw [putK_iff] at h3
    refine ⟨r,none,⟨⟨fun _=>rfl,fun M e=>by cases e⟩,fun S2 ha hm K2 hk=>fin ha ?_⟩,h3⟩
    unfold dop
    rw [hc]
    have h5:=h4 (fun r=>putK o.dst r S2 K2) (by rw [putK_iff]; exact hk)
    have hm1:=hm.1 hc
    refine getsK_congr (S:=S) (h2 (fun vs=>rop C o vs (memOf S2) fun r=>putK o.dst r S2 K2) ?_) ha
    cases ht:addrOf o with
    | some t =>
      obtain ⟨c,hc1,hc2⟩:=keyChk_ptr hkey ht
      obtain ⟨ty,ho⟩:=addr_load ht hc
      have hop:o.op.operands.toList=[.tmp t]:=by rw [ho]; simp [Op.operands]
      have hvs:vs=[c]:=by
        have:=h2 (fun x=>x=vs) rfl
        rw [hop] at this
        exact (getsK_one hc1 this).symm
      subst hvs
      cases hs:siteOf pl ops o with
      | some r =>
        rw [hs] at hm1 hc2
        obtain ⟨i,j,rfl⟩:=inSite_some hc2
        exact rop_load ho (M:=memOf S) hm1 h5
      | none =>
        rw [hs] at hm1 hc2
        exact rop_loadO ho hc2 (M:=memOf S) hm1 h5
    | none =>
      have hs:siteOf pl ops o=none:=by unfold siteOf; rw [ht]
      rw [hs] at hm1
      by_cases hl:∃ ty x,o.op=.load ty x
      · obtain ⟨ty,x,ho⟩:=hl
        have hop:o.op.operands.toList=[x]:=by rw [ho]; simp [Op.operands]
        by_cases hglob:∃ g,x=.global g
        · obtain ⟨g,rfl⟩:=hglob
          have hv:=h2 (fun x=>x=vs) rfl
          rw [hop] at hv
          obtain ⟨row,hv⟩:=getsK_glob hv
          have hv':[AV.fptr row 0]=vs:=hv
          subst hv'
          exact rop_loadO ho rfl (M:=memOf S) hm1 h5
        exfalso
        cases x with
        | tmp t=>unfold addrOf at ht; rw [ho] at ht; cases ht
        | const cc =>
          have hv:=h2 (fun x=>x=vs) rfl
          rw [hop] at hv
          have hv':vs=[ofC cc]:=by
            have:forceA (ofC cc) (fun a=>[a]=vs):=hv
            rw [forceA_iff] at this
            exact this.symm
          subst hv'
          have h6:=h1
          unfold rop at h6
          rw [ho] at h6
          have h7:atK (memOf S) (ofC cc) fun row j=>partK C.P ty row j fun r=>putK o.dst r S K:=h6
          have hno:∀ c:Value,(∀ k i j,ofC c≠.ptr k i j)∧∀ r j,ofC c≠.fptr r j:=by
            intro c
            refine ⟨fun k i j=>?_,fun r j=>?_⟩ <;>
            · unfold ofC
              split
              · intro h; cases h
              · unfold ofC1
                split <;> intro h <;> cases h
          unfold atK at h7
          split at h7
          · rename_i k i j he; exact (hno cc).1 _ _ _ he
          · rename_i r j he; exact (hno cc).2 _ _ he
          · exact h7
        | func f =>
          have hv:=h2 (fun x=>x=vs) rfl
          rw [hop] at hv
          have hv':[AV.fn f [] []]=vs:=hv
          subst hv'
          have h6:=h1
          unfold rop at h6
          rw [ho] at h6
          exact h6
        | global g=>exact hglob ⟨g,rfl⟩
      · exact rop_o (fun ty x he=>hl ⟨ty,x,he⟩) (M:=memOf S) hm1 h5
  · rename_i hc
    obtain ⟨vs,h1,h2⟩:=getsK_det _ h
    by_cases hmk:memOp pl o
    · obtain ⟨r,M,⟨h3,h5⟩,h4⟩:=wopD_det hC _ (wopD_keep hC hmk h1)
      rw [putK_iff] at h3
      refine ⟨r,some M,⟨⟨fun hn=>absurd hc hn,fun M' e=>?_⟩,fun S2 ha hm K2 hk=>fin ha ?_⟩,h3⟩
      · cases e
        rw [memOp_site hmk hkey (h2 (fun x=>x=vs) rfl) h1]
        exact h5
      · unfold dop
        rw [hc]
        have hm':=memOf_eq (hm.2 hc)
        refine getsK_congr (S:=S) (h2 (fun vs=>wopD C pl o vs (memOf S2) fun r M=>putK o.dst r (withM S2 M) K2) ?_) ha
        rw [hm']
        refine h4 _ ?_
        rw [putK_iff]
        exact hk
    rw [wopD_store hmk] at h1
    have hkeep:wop C o vs (memOf S) fun v M'=>(fun v M=>putK o.dst v (withM S M) K) v M'∧(∀ t,addrOf o=some t→Turns (siteOf pl ops o) S M'):=by
      cases ht:addrOf o with
      | none =>
        obtain ⟨r,M,h3,h4⟩:=wop_det _ h1
        exact h4 _ ⟨h3,fun t e=>by cases e⟩
      | some t =>
        obtain ⟨c,hc1,hc2⟩:=keyChk_ptr hkey ht
        obtain ⟨ty,y,ho⟩:=addr_store ht (memOp_own hmk) hc
        have hop:o.op.operands.toList=[.tmp t,y]:=by rw [ho]; simp [Op.operands]
        have hvs:∃ b,vs=[c,b]:=by
          have:=h2 (fun x=>x=vs) rfl
          rw [hop] at this
          obtain ⟨b,hb⟩:=getsK_two hc1 this
          exact ⟨b,hb.symm⟩
        obtain ⟨b,rfl⟩:=hvs
        obtain ⟨r,M,h3,h4⟩:=wop_det _ (wop_keep hc2 h1)
        exact h4 _ ⟨h3.1,fun t' _=>(show Turns (siteOf pl ops o) (memOf S) M from h3.2)⟩
    obtain ⟨r,M,⟨h3,h5⟩,h4⟩:=wop_det _ hkeep
    rw [putK_iff] at h3
    refine ⟨r,some M,⟨⟨fun hn=>absurd hc hn,fun M' e=>?_⟩,fun S2 ha hm K2 hk=>fin ha ?_⟩,h3⟩
    · cases e
      cases ht:addrOf o with
      | some t=>exact h5 t ht
      | none =>
        exfalso
        have h6:=h4 (fun _ _=>True) trivial
        unfold wop at h6
        split at h6
        · rename_i ty X Y p z ho
          cases X with
          | tmp t=>unfold addrOf at ht; rw [ho] at ht; cases ht
          | const cc =>
            have hv:=h2 (fun x=>x=[p,z]) rfl
            have hop:o.op.operands.toList=[.const cc,Y]:=by rw [ho]; simp [Op.operands]
            rw [hop] at hv
            have hv':forceA (ofC cc) fun a=>getK S Y fun b=>[a,b]=[p,z]:=hv
            rw [forceA_iff] at hv'
            obtain ⟨b,hb,_⟩:=getK_det _ hv'
            cases hb
            obtain ⟨cs,h7,_⟩:=cellsK_det _ h6
            have hno:∀ c:Value,∀ k i j,ofC c≠.ptr k i j:=by
              intro c k i j
              unfold ofC
              split
              · intro h; cases h
              · unfold ofC1
                split <;> intro h <;> cases h
            split at h7
            · obtain ⟨_,h7⟩:=Chk_elim h7
              unfold storeK at h7
              split at h7
              · rename_i he; exact hno cc _ _ _ he
              · rename_i he; exact hno cc _ _ _ he
              · exact h7
            · exact h7
          | func f =>
            have hv:=h2 (fun x=>x=[p,z]) rfl
            have hop:o.op.operands.toList=[.func f,Y]:=by rw [ho]; simp [Op.operands]
            rw [hop] at hv
            have hv':getK S Y fun b=>[AV.fn f [] [],b]=[p,z]:=hv
            obtain ⟨b,hb,_⟩:=getK_det _ hv'
            cases hb
            obtain ⟨cs,h7,_⟩:=cellsK_det _ h6
            split at h7
            · obtain ⟨_,h7⟩:=Chk_elim h7
              exact h7
            · exact h7
          | global g =>
            have hv:=h2 (fun x=>x=[p,z]) rfl
            have hop:o.op.operands.toList=[.global g,Y]:=by rw [ho]; simp [Op.operands]
            rw [hop] at hv
            obtain ⟨row,hv⟩:=getsK_glob hv
            have hv':getK S Y fun b=>[AV.fptr row 0,b]=[p,z]:=hv
            obtain ⟨b,hb,_⟩:=getK_det _ hv'
            cases hb
            obtain ⟨cs,h7,_⟩:=cellsK_det _ h6
            split at h7
            · obtain ⟨_,h7⟩:=Chk_elim h7
              exact h7
            · exact h7
        · exact h6
    · unfold dop
      rw [hc]
      have hm':=memOf_eq (hm.2 hc)
      refine getsK_congr (S:=S) (h2 (fun vs=>wopD C pl o vs (memOf S2) fun r M=>putK o.dst r (withM S2 M) K2) ?_) ha
      rw [hm',wopD_store hmk]
      refine h4 _ ?_
      rw [putK_iff]
      exact hk
  · rename_i hc
    split at h
    · rename_i d hd
      rw [putK_iff] at h
      refine ⟨_,none,⟨⟨fun _=>rfl,fun M e=>by cases e⟩,fun S2 ha _ K2 hk=>fin ha ?_⟩,h⟩
      unfold dop
      rw [hc]
      show match o.dst with
        | some d=>putK o.dst (.ptr (.L d) 0 0) S2 K2
        | none=>Fail 217
      split
      · rename_i d2 hd2
        rw [hd] at hd2
        cases hd2
        rw [putK_iff]
        exact hk
      · rename_i hd2
        rw [hd] at hd2
        cases hd2
    · exact False.elim h
  · rename_i hc
    obtain ⟨vs,h1,h2⟩:=getsK_det _ h
    obtain ⟨r,h3,h4⟩:=fop_det _ h1
    rw [putK_iff] at h3
    refine ⟨r,none,⟨⟨fun _=>rfl,fun M e=>by cases e⟩,fun S2 ha _ K2 hk=>fin ha ?_⟩,h3⟩
    unfold dop
    rw [hc]
    refine getsK_congr (S:=S) (h2 (fun vs=>fop C o vs fun r=>putK o.dst r S2 K2) (h4 _ ?_)) ha
    rw [putK_iff]
    exact hk
  · rename_i h0 h1 h2 h4 h5
    exfalso
    unfold easy at hez
    split at hez
    · rename_i he; exact h0 he
    · rename_i he; exact h1 he
    · rename_i he; exact h2 he
    · rename_i he; exact h4 he
    · rename_i he; exact h5 he
    · cases hez
theorem St_eta {S:St} {t:List AV} (h:t=S.t):({ t:=t,l:=S.l,o:=S.o,b:=S.b }:St)=S:=by
  subst h; rfl
theorem set_same {t:List AV} {d:Nat} {x:AV} (h:t[d]?=some x):t.set d x=t:=by
  apply List.ext_getElem?
  intro j
  rw [List.getElem?_set]
  by_cases hj:d=j
  · subst hj
    rw [if_pos rfl,if_pos (List.getElem?_eq_some_iff.1 h).1,h]
  · rw [if_neg hj]
def holdsAt (S:St) (d:Nat) (b:Option Bool):Prop :=
  match b with
  | some b=>S.t[d]?=some (.v (.bool b))
  | none=>S.t[d]?=some (.tup [])
theorem guardAt_iff {d:Nat} {S:St} {k:Option Bool→St→Prop}:guardAt d S k↔∃ b,holdsAt S d b∧k b S:=by
  constructor
  · intro h
    unfold guardAt at h
    rw [nthK_iff] at h
    obtain ⟨c,hc,h⟩:=h
    split at h
    · rename_i b
      rcases Fork_elim h with ⟨hb,h2⟩ | ⟨hb,h2⟩
      · subst hb
        rw [setK_iff,St_eta (set_same hc)] at h2
        exact ⟨some true,hc,h2⟩
      · subst hb
        rw [setK_iff,St_eta (set_same hc)] at h2
        exact ⟨some false,hc,h2⟩
    · exact ⟨none,hc,h⟩
    · exact False.elim h
  · rintro ⟨b,hb,h⟩
    unfold guardAt
    rw [nthK_iff]
    cases b with
    | none=>exact ⟨_,hb,h⟩
    | some b =>
      refine ⟨_,hb,?_⟩
      dsimp only
      refine Fork_intro (fun e=>?_) (fun e=>?_)
      · subst e; rw [setK_iff,St_eta (set_same hb)]; exact h
      · subst e; rw [setK_iff,St_eta (set_same hb)]; exact h
def agree (ops:Array Oper) (o:Oper) (S S2:St):Prop:=∀ d∈o.looksAt ops,S2.t[d]?=S.t[d]?
def Eff (C:Ctx) (pl:Pol) (ops:Array Oper) (o:Oper) (S:St) (v:AV) (m:Option St):Prop :=
  Keep pl ops o S m∧∀ S2,agree ops o S S2→RdOK pl ops o S S2→∀ K2:St→Prop,K2 (appS S2 o.dst v m)→ag C pl ops o S2 K2
theorem agree_ops {ops:Array Oper} {o:Oper} {S S2:St} (h:agree ops o S S2):opsAgree o.op.operands.toList S S2:=fun d hd =>
  h d (List.mem_append_left _ (List.mem_filterMap.2 ⟨.tmp d,hd,rfl⟩))
theorem ag_eff {C:Ctx} (hC:CDet C) {pl:Pol} {ops:Array Oper} {o:Oper} {S:St} {K:St→Prop} (hez:easy (clsD pl o)=true) (h:ag C pl ops o S K):∃ v m,Eff C pl ops o S v m∧K (appS S o.dst v m):=by
  unfold ag at h
  split at h
  · rename_i hg
    obtain ⟨v,m,⟨h1,h2⟩,h3⟩:=dop_eff hC hez h
    refine ⟨v,m,⟨h1,fun S2 ha hm K2 hk=>?_⟩,h3⟩
    unfold ag
    rw [hg]
    exact h2 S2 (agree_ops ha) hm K2 hk
  · rename_i j want hg
    split at h
    · exact False.elim h
    · rename_i d hd
      obtain ⟨b,hb,h⟩:=guardAt_iff.1 h
      have hlook:d∈o.looksAt ops:=List.mem_append_right _ (by
        rw [hg]
        unfold dstOf at hd
        simp [hd])
      have hin:∀ (S2:St) (K2:St→Prop),agree ops o S S2→gsel b want (dopc C pl ops o S2 K2) (putK o.dst (.tup []) S2 K2)→ag C pl ops o S2 K2:=by
        intro S2 K2 ha hk
        unfold ag
        rw [hg]
        dsimp only
        rw [hd]
        refine guardAt_iff.2 ⟨b,?_,hk⟩
        unfold holdsAt at hb ⊢
        rw [ha d hlook]
        exact hb
      have yes:dopc C pl ops o S K→(∀ (S2:St) (K2:St→Prop),agree ops o S S2→dopc C pl ops o S2 K2→ag C pl ops o S2 K2)→∃ v m,Eff C pl ops o S v m∧K (appS S o.dst v m):=by
        intro h hi
        obtain ⟨v,m,⟨h1,h2⟩,h3⟩:=dop_eff hC hez h
        exact ⟨v,m,⟨h1,fun S2 ha hm K2 hk=>hi S2 K2 ha (h2 S2 (agree_ops ha) hm K2 hk)⟩,h3⟩
      have no:putK o.dst (.tup []) S K→(∀ (S2:St) (K2:St→Prop),agree ops o S S2→putK o.dst (.tup []) S2 K2→ag C pl ops o S2 K2)→∃ v m,Eff C pl ops o S v m∧K (appS S o.dst v m):=by
        intro h hi
        rw [putK_iff] at h
        exact ⟨.tup [],none,⟨⟨fun _=>rfl,fun M e=>by cases e⟩,fun S2 ha _ K2 hk=>hi S2 K2 ha (by rw [putK_iff]; exact hk)⟩,h⟩
      cases b with
      | none=>exact no h (fun S2 K2 ha hk=>hin S2 K2 ha hk)
      | some b =>
        cases b <;> cases want
        · exact yes h (fun S2 K2 ha hk=>hin S2 K2 ha hk)
        · exact no h (fun S2 K2 ha hk=>hin S2 K2 ha hk)
        · exact no h (fun S2 K2 ha hk=>hin S2 K2 ha hk)
        · exact yes h (fun S2 K2 ha hk=>hin S2 K2 ha hk)
theorem appS_t {S:St} {dst:Option Tmp} {v:AV} {m:Option St} {d:Nat} (h:dst≠some d):(appS S dst v m).t[d]?=S.t[d]?:=by
  unfold appS setT
  cases dst with
  | none=>cases m <;> rfl
  | some e =>
    have hne:e≠d:=fun he=>h (by rw [he])
    cases m <;> simp [withM,List.getElem?_set_ne hne]
theorem appS_mem {S:St} {dst:Option Tmp} {v:AV}:memEq S (appS S dst v none):=by
  unfold appS setT
  cases dst <;> exact ⟨rfl,rfl,rfl⟩
def Compat (pl:Pol) (ops:Array Oper) (x y:Oper):Prop :=
  clsD pl x=2→clsD pl y≠2∧(clsD pl y=1→sitesApart pl ops x y=true)
theorem sitesApart_symm {pl:Pol} {ops:Array Oper} {x y:Oper} (h:sitesApart pl ops x y=true):sitesApart pl ops y x=true:=by
  revert h
  unfold sitesApart
  generalize siteOf pl ops x=a
  generalize siteOf pl ops y=b
  intro h
  cases a with
  | none=>cases b with
    | none=>exact h
    | some b=>rfl
  | some a=>cases b with
    | none=>rfl
    | some b =>
      have h':(!(Nat.beq a b))=true:=h
      show (!(Nat.beq b a))=true
      cases hb:Nat.beq b a with
      | false=>rfl
      | true =>
        have:=Nat.eq_of_beq_eq_true hb
        subst this
        rw [hb] at h'
        cases h'
theorem apart2_spec {pl:Pol} {ops:Array Oper} {x y:Oper} (h:apart2 pl ops x y=true):x.apart ops y=true∧Compat pl ops x y∧Compat pl ops y x∧easy (clsD pl x)=true∧easy (clsD pl y)=true:=by
  unfold apart2 at h
  simp only [Bool.and_eq_true] at h
  refine ⟨h.1,fun e=>⟨fun e2=>?_,fun e2=>?_⟩,fun e=>⟨fun e2=>?_,fun e2=>?_⟩,?_,?_⟩
  · have h2:=h.2
    rw [e,e2] at h2
    simp at h2
  · have h2:=h.2
    rw [e,e2] at h2
    exact h2
  · have h2:=h.2
    rw [e,e2] at h2
    simp at h2
  · have h2:=h.2
    rw [e,e2] at h2
    exact sitesApart_symm h2
  · have h2:=h.2
    revert h2
    split <;> rename_i h3 h4 <;> intro h2 <;> first | (rw [h3]; rfl) | cases h2
  · have h2:=h.2
    revert h2
    split <;> rename_i h3 h4 <;> intro h2 <;> first | (rw [h4]; rfl) | cases h2
theorem appS_comm {S:St} {x y:Option Tmp} {v u:AV} {m n:Option St} (h:∀ d,x=some d→y≠some d) (hm:m=none∨n=none):appS (appS S x v m) y u n=appS (appS S y u n) x v m:=by
  cases x with
  | none=>cases y <;> rcases hm with rfl | rfl <;> first | rfl | (cases m <;> rfl) | (cases n <;> rfl)
  | some d =>
    cases y with
    | none=>rcases hm with rfl | rfl <;> first | (cases m <;> rfl) | (cases n <;> rfl)
    | some e =>
      have hne:d≠e:=fun he=>h d rfl (he▸rfl)
      have hs:(S.t.set d v).set e u=(S.t.set e u).set d v:=List.set_comm _ _ hne
      rcases hm with rfl | rfl
      · cases n <;> simp only [appS,setT,withM,hs]
      · cases m <;> simp only [appS,setT,withM,hs]
theorem appS_l {S:St} {dst:Option Tmp} {v:AV} {m:Option St}:(appS S dst v m).l=match m with | none=>S.l | some M=>M.l:=by
  unfold appS
  rw [setT_l]
  cases m <;> rfl
theorem rd_after {pl:Pol} {ops:Array Oper} {x y:Oper} {S:St} {v:AV} {m:Option St} (hk:Keep pl ops x S m) (hc:Compat pl ops x y):RdOK pl ops y S (appS S x.dst v m):=by
  cases m with
  | none=>exact .of appS_mem
  | some M =>
    have h2:clsD pl x=2:=by
      cases Nat.decEq (clsD pl x) 2 with
      | isTrue h=>exact h
      | isFalse h=>have:=hk.1 h; cases this
    obtain ⟨h3,h4⟩:=hc h2
    refine ⟨fun h1=>?_,fun h=>absurd h h3⟩
    have hap:=h4 h1
    have hkm:=hk.2 M rfl
    have hoM:(appS S x.dst v (some M)).o=M.o:=by unfold appS; rw [setT_o]; rfl
    revert hap hkm
    unfold sitesApart
    generalize siteOf pl ops x=sx
    generalize siteOf pl ops y=sy
    intro hap hkm
    cases sx with
    | some a=>cases sy with
      | some b =>
        show lookL _ b=_
        rw [appS_l]
        refine hkm.2 b (fun e=>?_)
        subst e
        have h':(!(Nat.beq b b))=true:=hap
        rw [show Nat.beq b b=true from Nat.beq_refl b] at h'
        cases h'
      | none =>
        show (appS S x.dst v (some M)).o=S.o
        rw [hoM]
        exact hkm.1
    | none=>cases sy with
      | some b =>
        show lookL _ b=_
        rw [appS_l]
        show lookL M.l b=_
        rw [show M.l=S.l from hkm]
      | none=>cases hap
theorem RdOK.symm {pl:Pol} {ops:Array Oper} {o:Oper} {S S2:St} (h:RdOK pl ops o S S2):RdOK pl ops o S2 S:=⟨fun h1=>(h.1 h1).symm,fun h2=>(h.2 h2).symm⟩
theorem RdOK.trans {pl:Pol} {ops:Array Oper} {o:Oper} {S S2 S3:St} (h:RdOK pl ops o S S2) (k:RdOK pl ops o S2 S3):RdOK pl ops o S S3:=⟨fun h1=>(h.1 h1).trans (k.1 h1),fun h2=>(h.2 h2).trans (k.2 h2)⟩
theorem Turns.of {site:Option Nat} {S S2 M:St} (h:memEq S S2) (k:Turns site S2 M):Turns site S M:=by
  cases site with
  | some r =>
    obtain ⟨k1,k2⟩:=k
    refine ⟨k1.trans h.2.1,fun r' hr=>?_⟩
    rw [k2 r' hr,h.1]
  | none=>exact Eq.trans k h.1
theorem Keep.after {pl:Pol} {ops:Array Oper} {x y:Oper} {S:St} {v:AV} {m n:Option St} (hk:Keep pl ops y (appS S x.dst v m) n) (hx:Keep pl ops x S m) (hc:Compat pl ops x y):Keep pl ops y S n:=by
  refine ⟨hk.1,fun M e=>?_⟩
  have h2:clsD pl y=2:=by
    cases Nat.decEq (clsD pl y) 2 with
    | isTrue h=>exact h
    | isFalse h=>have:=hk.1 h; rw [this] at e; cases e
  have hm:m=none:=hx.1 fun h=>(hc h).1 h2
  subst hm
  exact Turns.of appS_mem (hk.2 M e)
theorem Keep.before {pl:Pol} {ops:Array Oper} {x y:Oper} {S:St} {v:AV} {m n:Option St} (hx:Keep pl ops x S m) (hy:Keep pl ops y S n) (hc:Compat pl ops x y):Keep pl ops x (appS S y.dst v n) m:=by
  refine ⟨hx.1,fun M e=>?_⟩
  have h2:clsD pl x=2:=by
    cases Nat.decEq (clsD pl x) 2 with
    | isTrue h=>exact h
    | isFalse h=>have:=hx.1 h; rw [this] at e; cases e
  have hn:n=none:=hy.1 fun h=>(hc h2).1 h
  subst hn
  exact Turns.of appS_mem.symm (hx.2 M e)
theorem ag_put {C:Ctx} (hC:CDet C) {pl:Pol} {ops:Array Oper} {oi oj:Oper} {v:AV} {m:Option St} (hap:apart2 pl ops oi oj=true) {K:St→Prop} {S:St}
    (hy:Eff C pl ops oi S v m) (h:ag C pl ops oj (appS S oi.dst v m) K):ag C pl ops oj S fun S'=>Eff C pl ops oi S' v m∧K (appS S' oi.dst v m):=by
  obtain ⟨hap,hc1,hc2,_,hez⟩:=apart2_spec hap
  obtain ⟨h1,h2,h3⟩:=Oper.apart_spec hap
  obtain ⟨u,n,hj,hk⟩:=ag_eff hC hez h
  have hjk:Keep pl ops oj S n:=hj.1.after hy.1 hc1
  refine hj.2 S (fun d hd=>(appS_t (fun e=>h1 d e hd)).symm) (rd_after hy.1 hc1).symm _ ⟨⟨hy.1.before hjk hc1,fun S2 ha hm K2 hk2=>hy.2 S2 (fun d hd=>(ha d hd).trans (appS_t (fun e=>h3 d e hd))) ((rd_after hjk hc2).trans hm) K2 hk2⟩,?_⟩
  rw [← appS_comm h2 ?_]
  · exact hk
  · by_cases h12:clsD pl oi=2
    · exact .inr (hj.1.1 (hc1 h12).1)
    · exact .inl (hy.1.1 h12)
theorem foldl_bits {f:Nat→Edge→Nat} {acc:List Nat} {i:Nat} (hf:∀ s e,Nat.testBit (f s e) i=true→Nat.testBit s i=true∨(Region.binds .any e=true∧(e.on=i∨Nat.testBit (acc.getD e.on 0) i=true))):∀ (l:List Edge) (s:Nat),Nat.testBit (l.foldl f s) i=true →
    Nat.testBit s i=true∨∃ e∈l,Region.binds .any e=true∧(e.on=i∨Nat.testBit (acc.getD e.on 0) i=true)
  | [],s,h=>.inl h
  | e::l,s,h=>by
    rw [List.foldl_cons] at h
    rcases foldl_bits hf l _ h with h | ⟨e',he,h1,h2⟩
    · rcases hf _ _ h with h | ⟨h1,h2⟩
      · exact .inl h
      · exact .inr ⟨e,List.mem_cons_self,h1,h2⟩
    · exact .inr ⟨e',List.mem_cons_of_mem _ he,h1,h2⟩
theorem waitSets_cons (o:Oper) (os:List Oper) (acc:List Nat):∃ b,waitSets (o::os) acc=waitSets os (acc++[b])∧∀ i,Nat.testBit b i=true→∃ e∈o.after,Region.binds .any e=true∧(e.on=i∨Nat.testBit (acc.getD e.on 0) i=true):=by
  refine ⟨_,rfl,fun i h=>?_⟩
  have hz:Nat.testBit 0 i=true→False:=fun h=>by simp at h
  refine (foldl_bits (acc:=acc) (fun s e h=>?_) _ _ h).elim (fun h=>(hz h).elim) (fun ⟨e,he,h1,h2⟩=>⟨e,by simpa using he,h1,h2⟩)
  split at h
  · rename_i hb
    have h':Nat.testBit (s ||| (2 ^ e.on ||| acc.getD e.on 0)) i=true:=h
    rw [Nat.testBit_or,Nat.testBit_or,Nat.testBit_two_pow] at h'
    simp only [Bool.or_eq_true,decide_eq_true_eq] at h'
    rcases h' with h' | h' | h'
    · exact .inl h'
    · exact .inr ⟨hb,.inl h'⟩
    · exact .inr ⟨hb,.inr h'⟩
  · exact .inl h
theorem waitSets_keep:∀ (os:List Oper) (acc:List Nat),∃ l,waitSets os acc=acc++l
  | [],acc=>⟨[],by simp [waitSets]⟩
  | o::os,acc=>by
    obtain ⟨b,h1,_⟩:=waitSets_cons o os acc
    obtain ⟨l,h⟩:=waitSets_keep os (acc++[b])
    exact ⟨b::l,by rw [h1,h,List.append_assoc]; rfl⟩
theorem waitSets_spec:∀ (os:List Oper) (acc:List Nat) (j:Nat) (o:Oper) (i:Nat),os[j]?=some o→Nat.testBit ((waitSets os acc).getD (acc.length + j) 0) i=true →
    ∃ e∈o.after,Region.binds .any e=true∧(e.on=i∨Nat.testBit ((waitSets os acc).getD e.on 0) i=true)
  | [],_,_,_,_,h,_=>by simp at h
  | o0::os,acc,0,o,i,h,hb=>by
    simp only [List.getElem?_cons_zero,Option.some.injEq] at h
    subst h
    obtain ⟨b,h1,h2⟩:=waitSets_cons o0 os acc
    obtain ⟨l,hl⟩:=waitSets_keep os (acc++[b])
    rw [h1,hl,List.append_assoc] at hb ⊢
    have e1:(acc++([b]++l)).getD (acc.length + 0) 0=b:=by
      simp [List.getD_eq_getElem?_getD]
    rw [e1] at hb
    obtain ⟨e,he,h3,h4⟩:=h2 i hb
    refine ⟨e,he,h3,h4.imp id (fun h=>?_)⟩
    by_cases hlt:e.on<acc.length
    · rw [List.getD_eq_getElem?_getD,List.getElem?_append_left hlt,← List.getD_eq_getElem?_getD]
      exact h
    · rw [List.getD_eq_getElem?_getD,List.getElem?_eq_none (by omega)] at h
      simp at h
  | o0::os,acc,j + 1,o,i,h,hb=>by
    obtain ⟨b,h1,h2⟩:=waitSets_cons o0 os acc
    rw [h1] at hb ⊢
    refine waitSets_spec os _ j o i (by simpa using h) ?_
    have:(acc++[b]).length + j=acc.length + (j + 1):=by simp; omega
    rw [this]
    exact hb
theorem waits {ops:Array Oper} {j i:Nat} {o:Oper} (hj:ops[j]?=some o) (h:Nat.testBit ((waitSets ops.toList []).getD j 0) i=true) :
    ∃ e∈o.after,Region.binds .any e=true∧(e.on=i∨Nat.testBit ((waitSets ops.toList []).getD e.on 0) i=true) :=
  waitSets_spec ops.toList [] j o i (by simpa using hj) (by simpa using h)
def Closed (ops:Array Oper) (listed:Array Bool):Prop:=∀ j,listed.getD j false=true→∀ i,Nat.testBit ((waitSets ops.toList []).getD j 0) i=true→listed.getD i false=true
theorem not_both {listed:Array Bool} {i:Nat} (h:listed.getD i true=false):listed.getD i false=true→False:=by
  intro h2
  simp only [Array.getD_eq_getD_getElem?] at h h2
  cases hh:listed[i]? with
  | none=>rw [hh] at h; simp at h
  | some b=>rw [hh] at h h2; simp at h h2; rw [h] at h2; cases h2
theorem Closed.ready {ops:Array Oper} {listed:Array Bool} (hc:Closed ops listed) {j:Nat} (hj:j∈Region.ready .any ops listed) {i:Nat} (hb:Nat.testBit ((waitSets ops.toList []).getD j 0) i=true):listed.getD i false=true:=by
  obtain ⟨_,o,ho,hall⟩:=mem_ready.1 hj
  obtain ⟨e,he,h1,h2⟩:=waits ho hb
  rcases h2 with h2 | h2
  · rw [← h2]; exact hall e he h1
  · exact hc _ (hall e he h1) _ h2
theorem getD_set {listed:Array Bool} {i j:Nat} (h:listed.getD i false=true):(listed.setIfInBounds j true).getD i false=true:=by
  by_cases hij:j=i
  · subst hij
    simp only [Array.getD_eq_getD_getElem?] at *
    cases hh:listed[j]? with
    | none=>rw [hh] at h; simp at h
    | some b =>
      have:=(Array.getElem?_eq_some_iff.1 hh).1
      simp [this]
  · rw [getD_set_ne false hij]; exact h
theorem Closed.set {ops:Array Oper} {listed:Array Bool} (hc:Closed ops listed) {j:Nat} (hj:j∈Region.ready .any ops listed):Closed ops (listed.setIfInBounds j true):=by
  intro k hk i hb
  by_cases hjk:j=k
  · subst hjk
    exact getD_set (hc.ready hj hb)
  · rw [getD_set_ne false hjk] at hk
    exact getD_set (hc k hk i hb)
theorem ready_mono2 {ops:Array Oper} {listed:Array Bool} {i j:Nat} (hi:i∈Region.ready .any ops listed) (hne:j≠i):i∈Region.ready .any ops (listed.setIfInBounds j true):=by
  obtain ⟨h1,o,ho,h2⟩:=mem_ready.1 hi
  exact mem_ready.2 ⟨by rw [getD_set_ne true hne]; exact h1,o,ho,fun e he hb=>getD_set (h2 e he hb)⟩
def agI (C:Ctx) (pl:Pol) (ops:Array Oper) (i:Nat) (K:St→Prop) (S:St):Prop :=
  match ops[i]? with
  | none=>K S
  | some o=>ag C pl ops o S K
def aAny (C:Ctx) (pl:Pol) (ops:Array Oper) (Q:St→Prop):Nat→Array Bool→St→Prop
  | 0,listed,S=>Region.ready .any ops listed=[]∧Q S
  | fuel + 1,listed,S=>(Region.ready .any ops listed=[]→Q S)∧∀ i∈Region.ready .any ops listed,agI C pl ops i (aAny C pl ops Q fuel (listed.setIfInBounds i true)) S
theorem ag_mono {C:Ctx} (hC:CDet C) {pl:Pol} {ops:Array Oper} {o:Oper} {S:St} {K K':St→Prop} (h:ag C pl ops o S K) (hk:∀ S,K S→K' S):ag C pl ops o S K':=by
  obtain ⟨S',h1,h2⟩:=ag_det hC _ h
  exact h2 K' (hk _ h1)
def Fr (pl:Pol) (ops:Array Oper) (listed:Array Bool) (i:Nat) (oi:Oper):Prop:=∀ j oj,ops[j]?=some oj→j≠i→listed.getD j true=false→Nat.testBit ((waitSets ops.toList []).getD j 0) i=false→apart2 pl ops oi oj=true
theorem aAny_first {C:Ctx} (hC:CDet C) {pl:Pol} {ops:Array Oper} {Q:St→Prop} {i:Nat} {oi:Oper} {v:AV} {m:Option St} (hi:ops[i]?=some oi) :
    ∀ (fuel:Nat) (listed:Array Bool) (S:St),Closed ops listed→Fr pl ops listed i oi→i∈Region.ready .any ops listed→Eff C pl ops oi S v m →
      aAny C pl ops Q fuel (listed.setIfInBounds i true) (appS S oi.dst v m)→aAny C pl ops Q (fuel + 1) listed S:=by
  have here:∀ {S:St} {K:St→Prop},Eff C pl ops oi S v m→K (appS S oi.dst v m)→agI C pl ops i K S:=by
    intro S K hy hk
    unfold agI
    rw [hi]
    exact hy.2 S (fun _ _=>rfl) (.of (memEq.refl S)) K hk
  intro fuel
  induction fuel with
  | zero =>
    intro listed S _ _ hr hy H
    refine ⟨fun h=>(by rw [h] at hr; cases hr),fun j hj=>?_⟩
    by_cases hji:j=i
    · subst hji; exact here hy H
    · have:=ready_mono2 hj (fun e=>hji e.symm)
      rw [H.1] at this
      cases this
  | succ fuel ih =>
    intro listed S hcl hfree hr hy H
    refine ⟨fun h=>(by rw [h] at hr; cases hr),fun j hj=>?_⟩
    by_cases hji:j=i
    · subst hji; exact here hy H
    · have h1:=H.2 j (ready_mono2 hj (fun e=>hji e.symm))
      obtain ⟨hjun,oj,hoj,hall⟩:=mem_ready.1 hj
      have hnot:Nat.testBit ((waitSets ops.toList []).getD j 0) i=false:=by
        cases hb:Nat.testBit ((waitSets ops.toList []).getD j 0) i with
        | false=>rfl
        | true=>exact (not_both (mem_ready.1 hr).1 (hcl.ready hj hb)).elim
      unfold agI at h1 ⊢
      rw [hoj] at h1 ⊢
      have h2:=ag_put hC (hfree j oj hoj hji hjun hnot) hy h1
      have hfree':Fr pl ops (listed.setIfInBounds j true) i oi:=fun k ok hk hki hun hno=>by
        refine hfree k ok hk hki ?_ hno
        by_cases hjk:j=k
        · subst hjk; exact hjun
        · rw [getD_set_ne true hjk] at hun; exact hun
      refine ag_mono hC h2 (fun S' h3=>ih (listed.setIfInBounds j true) S' (hcl.set hj) hfree' (ready_mono2 hr (fun e=>hji e)) h3.1 ?_)
      rw [Array.setIfInBounds_comm _ _ hji]
      exact h3.2
theorem free2_spec {pl:Pol} {ops:Array Oper} {listed:Array Bool} {i:Nat} {oi:Oper} (hi:ops[i]?=some oi) (h:free2 pl ops (waitSets ops.toList []) listed i=true):Fr pl ops listed i oi:=by
  intro j oj hj hji hun hno
  unfold free2 at h
  rw [hi] at h
  have hlt:j<ops.size:=(Array.getElem?_eq_some_iff.1 hj).1
  have:=List.all_eq_true.1 h j (List.mem_range.2 hlt)
  rw [hj] at this
  simp only [hun,hno,Bool.or_eq_true,Bool.or_false] at this
  rcases this with h | h
  · exact absurd (Nat.eq_of_beq_eq_true h) hji
  · simpa using h
theorem vEq_eq {x y:Value} (h:vEq x y=true):x=y:=by
  unfold vEq at h
  split at h
  · simp at h; rw [h]
  · simp at h; rw [h.1,h.2]
  · rename_i a b
    have h':=eq_of_beq h
    congr 1
    have:a.data=b.data:=Array.ext' h'
    cases a; cases b; simp_all
  · cases h
theorem kEq_eq {x y:Key} (h:kEq x y=true):x=y:=by
  unfold kEq at h
  split at h
  · rw [Nat.eq_of_beq_eq_true h]
  · rw [Nat.eq_of_beq_eq_true h]
  · cases h
theorem lEq_eq {α:Type} {f:α→α→Bool} (hf:∀ x y,f x y=true→x=y):∀ {xs ys:List α},lEq f xs ys=true→xs=ys
  | [],[],_=>rfl
  | x::xs,y::ys,h=>by
    unfold lEq at h
    simp only [Bool.and_eq_true] at h
    rw [hf x y h.1,lEq_eq hf h.2]
  | [],_::_,h=>by cases h
  | _::_,[],h=>by cases h
theorem aEq_eq:∀ (n:Nat) (x y:AV),aEq n x y=true→x=y
  | 0,_,_,h=>by cases h
  | n + 1,x,y,h=>by
    have ih:=aEq_eq n
    have nb:∀ {a b:Nat},Nat.beq a b=true→a=b:=fun h=>Nat.eq_of_beq_eq_true h
    unfold aEq at h
    split at h <;> first | rfl | (cases h; done) | skip
    · rw [vEq_eq h]
    · simp only [Bool.and_eq_true] at h; rw [kEq_eq h.1.1,nb h.1.2,nb h.2]
    · simp only [Bool.and_eq_true] at h; rw [lEq_eq ih h.1,nb h.2]
    · rw [lEq_eq (fun _ _ h=>lEq_eq ih h) h]
    · rw [nb h]
    · rw [nb h]
    · simp only [Bool.and_eq_true] at h; rw [nb h.1.1.1,nb h.1.1.2,nb h.1.2,nb h.2]
    · rw [nb h]
    · simp only [Bool.and_eq_true] at h; rw [nb h.1.1,lEq_eq ih h.1.2,lEq_eq ih h.2]
    · rw [lEq_eq ih h]
    · rw [lEq_eq ih h]
    · rw [nb h]
theorem nEq_eq {x y:List Nat} (h:nEq x y=true):x=y:=lEq_eq (fun _ _ h=>Nat.eq_of_beq_eq_true h) h
theorem vlEq_eq {x y:Value} (h:vlEq x y=true):x=y:=by
  unfold vlEq at h
  split at h
  · simp only [Bool.and_eq_true] at h; rw [Nat.eq_of_beq_eq_true h.1,Nat.eq_of_beq_eq_true h.2]
  · rfl
  · exact vEq_eq h
theorem oprEq_eq (x y:Operand) (h:oprEq x y=true):x=y:=by
  unfold oprEq at h
  split at h
  · rw [Nat.eq_of_beq_eq_true h]
  · rw [vlEq_eq h]
  · rw [Nat.eq_of_beq_eq_true h]
  · cases h
theorem arrEq {α:Type} {f:α→α→Bool} (hf:∀ x y,f x y=true→x=y) {x y:Array α} (h:lEq f x.toList y.toList=true):x=y:=Array.ext' (lEq_eq hf h)
theorem callEq_eq {x y:Call} (h:callEq x y=true):x=y:=by
  unfold callEq at h
  split at h
  · simp only [Bool.and_eq_true,decide_eq_true_eq] at h
    rw [h.1.1,arrEq oprEq_eq h.1.2,Array.ext' (nEq_eq h.2)]
  · simp only [Bool.and_eq_true] at h
    rw [oprEq_eq _ _ h.1.1,arrEq oprEq_eq h.1.2,Array.ext' (nEq_eq h.2)]
  · cases h
theorem opEq_eq {x y:Op} (h:opEq x y=true):x=y:=by
  have nb:∀ {a b:Nat},Nat.beq a b=true→a=b:=fun h=>Nat.eq_of_beq_eq_true h
  unfold opEq at h
  split at h
  · rw [oprEq_eq _ _ h]
  · rw [oprEq_eq _ _ h]
  · rw [nb h]
  · simp only [Bool.and_eq_true] at h; rw [nb h.1,oprEq_eq _ _ h.2]
  · simp only [Bool.and_eq_true] at h; rw [nb h.1.1,oprEq_eq _ _ h.1.2,oprEq_eq _ _ h.2]
  · simp only [Bool.and_eq_true] at h; rw [nb h.1.1,oprEq_eq _ _ h.1.2,nb h.2]
  · simp only [Bool.and_eq_true] at h; rw [nb h.1.1,oprEq_eq _ _ h.1.2,oprEq_eq _ _ h.2]
  · simp only [Bool.and_eq_true,decide_eq_true_eq] at h; rw [h.1.1.1.1,nb h.1.1.1.2,oprEq_eq _ _ h.1.1.2,oprEq_eq _ _ h.1.2,nb h.2]
  · simp only [Bool.and_eq_true] at h
    rw [nb h.1.1,nb h.1.2,arrEq (fun (a b:Nat×Operand) h=>by
      simp only [Bool.and_eq_true] at h
      exact Prod.ext (nb h.1) (oprEq_eq _ _ h.2)) h.2]
  · rw [callEq_eq h]
  · cases h
theorem edEq_eq (x y:Edge) (h:edEq x y=true):x=y:=by
  obtain ⟨a,b⟩:=x
  obtain ⟨c,d⟩:=y
  simp only [edEq,Bool.and_eq_true,decide_eq_true_eq] at h
  rw [Nat.eq_of_beq_eq_true h.1,h.2]
theorem operEq_eq (x y:Oper) (h:operEq x y=true):x=y:=by
  obtain ⟨a,b,c,d,e,f⟩:=x
  obtain ⟨a',b',c',d',e',f'⟩:=y
  simp only [operEq,Bool.and_eq_true,decide_eq_true_eq] at h
  rw [h.1.1.1.1.1,opEq_eq h.1.1.1.1.2,Nat.eq_of_beq_eq_true h.1.1.1.2,h.1.1.2,arrEq edEq_eq h.1.2,h.2]
theorem codeEq_eq:∀ (x y:Code),codeEq x y=true→x=y:=by
  intro x
  induction x with
  | skip=>intro y h; cases y <;> first | rfl | cases h
  | region i ops d =>
    intro y h
    cases y <;> first | (cases h; done) | skip
    simp only [codeEq,Bool.and_eq_true,decide_eq_true_eq] at h
    rw [Nat.eq_of_beq_eq_true h.1.1,arrEq operEq_eq h.1.2,h.2]
  | seq a b iha ihb =>
    intro y h
    cases y <;> first | (cases h; done) | skip
    simp only [codeEq,Bool.and_eq_true] at h
    rw [iha _ h.1,ihb _ h.2]
  | cond c a b iha ihb =>
    intro y h
    cases y <;> first | (cases h; done) | skip
    simp only [codeEq,Bool.and_eq_true] at h
    rw [oprEq_eq _ _ h.1.1,iha _ h.1.2,ihb _ h.2]
  | block i a iha =>
    intro y h
    cases y <;> first | (cases h; done) | skip
    simp only [codeEq,Bool.and_eq_true] at h
    rw [Nat.eq_of_beq_eq_true h.1,iha _ h.2]
  | loop a iha =>
    intro y h
    cases y <;> first | (cases h; done) | skip
    simp only [codeEq] at h
    rw [iha _ h]
  | exit i =>
    intro y h
    cases y <;> first | (cases h; done) | skip
    simp only [codeEq] at h
    rw [Nat.eq_of_beq_eq_true h]
  | ret=>intro y h; cases y <;> first | rfl | cases h
  | _=>intro y h; cases y <;> cases h
theorem polEq_eq {x y:Pol} (h:polEq x y=true):x=y:=by
  obtain ⟨a,b,c,d,e,f,g,p,i,j,k,l,m,n⟩:=x
  obtain ⟨a',b',c',d',e',f',g',p',i',j',k',l',m',n'⟩:=y
  simp only [polEq,Bool.and_eq_true] at h
  obtain ⟨⟨⟨⟨⟨⟨⟨⟨⟨⟨⟨⟨⟨h1,h2⟩,h3⟩,h4⟩,h5⟩,h6⟩,h7⟩,h8⟩,h9⟩,h10⟩,h11⟩,h12⟩,h13⟩,h14⟩:=h
  rw [nEq_eq h1,nEq_eq h2,nEq_eq h3,nEq_eq h4,nEq_eq h5,nEq_eq h6,nEq_eq h7,nEq_eq h8,nEq_eq h9,nEq_eq h10,lEq_eq (fun (x y:Nat×Nat) h=>by
    simp only [Bool.and_eq_true] at h
    exact Prod.ext (Nat.eq_of_beq_eq_true h.1) (Nat.eq_of_beq_eq_true h.2)) h11,nEq_eq h12,nEq_eq h13,nEq_eq h14]
theorem oEq_eq {α:Type} {f:α→α→Bool} (hf:∀ x y,f x y=true→x=y):∀ {x y:Option α},oEq f x y=true→x=y
  | none,none,_=>rfl
  | some _,some _,h=>congrArg some (hf _ _ h)
  | none,some _,h=>by cases h
  | some _,none,h=>by cases h
theorem obEq_eq (x y:Ob) (h:obEq x y=true):x=y:=by
  unfold obEq at h
  split at h
  · simp only [Bool.and_eq_true,beq_iff_eq] at h
    rw [h.1.1,Nat.eq_of_beq_eq_true h.1.2,lEq_eq (fun _ _ h=>lEq_eq (aEq_eq 8) h) h.2]
  · simp only [Bool.and_eq_true,beq_iff_eq] at h
    rw [h.1,lEq_eq (fun (x y:AV×AV) h=>by
      simp only [Bool.and_eq_true] at h
      exact Prod.ext (aEq_eq 8 _ _ h.1) (aEq_eq 8 _ _ h.2)) h.2]
  · rfl
  · simp only [Bool.and_eq_true] at h
    rw [oEq_eq (fun _ _ h=>lEq_eq (aEq_eq 8) h) h.1.1.1,Nat.eq_of_beq_eq_true h.1.1.2,lEq_eq (fun _ _ h=>oEq_eq (fun _ _ h=>lEq_eq (fun _ _ h=>lEq_eq (aEq_eq 8) h) h) h) h.1.2,oEq_eq (fun (x y:Nat×AV) h=>by
      simp only [Bool.and_eq_true] at h
      exact Prod.ext (Nat.eq_of_beq_eq_true h.1) (aEq_eq 8 _ _ h.2)) h.2]
  · simp only [Bool.and_eq_true] at h
    rw [polEq_eq h.1.1.1.1.1,nEq_eq h.1.1.1.1.2,lEq_eq (aEq_eq 8) h.1.1.1.2,codeEq_eq _ _ h.1.1.2,codeEq_eq _ _ h.1.2,Nat.eq_of_beq_eq_true h.2]
  · cases h
def tabQ (tab:List (Nat×List AV×AV)) (f:Nat) (args:List AV):Option AV:=(tab.find? fun e=>Nat.beq e.1 f&&lEq (aEq 12) e.2.1 args).map fun e=>e.2.2
theorem tabQ_ok {P:Program} {tab:List (Nat×List AV×AV)} (h:∀ e∈tab,PCall P e.1 e.2.1 fun x=>x=e.2.2):∀ f args r,tabQ tab f args=some r→PureEq P f args r:=by
  intro f args r hr
  unfold tabQ at hr
  rw [Option.map_eq_some_iff] at hr
  obtain ⟨e,he,rfl⟩:=hr
  have h1:=List.find?_some he
  simp only [Bool.and_eq_true] at h1
  have e1:=Nat.eq_of_beq_eq_true h1.1
  have e2:=lEq_eq (aEq_eq 12) h1.2
  obtain ⟨r,h2,h3⟩:=h e (List.mem_of_find?_eq_some he)
  rw [← e1,← e2]
  rw [h3] at h2
  exact h2
theorem stEq_eq {S S':St} (h:stEq S S'=true):S=S':=by
  unfold stEq at h
  simp only [Bool.and_eq_true] at h
  obtain ⟨t,l,o,b⟩:=S
  obtain ⟨t',l',o',b'⟩:=S'
  simp only at h
  rw [lEq_eq (aEq_eq 8) h.1.1.1,lEq_eq (fun (x y:Nat×List AV) h=>by
    simp only [Bool.and_eq_true] at h
    exact Prod.ext (Nat.eq_of_beq_eq_true h.1) (lEq_eq (aEq_eq 8) h.2)) h.1.1.2,lEq_eq obEq_eq h.1.2,Nat.eq_of_beq_eq_true h.2]
theorem sameS_out {S2 S1:St} {X:Prop} (h:sameS S2 S1 X):S2=S1∧X:=by
  unfold sameS at h
  split at h
  · rename_i he; exact ⟨stEq_eq he,h⟩
  · exact h
theorem dall_out {go:Nat→(St→Prop)→Prop} (hg:∀ i,Det (go i)):∀ {is:List Nat} {S1:St} {X:Prop},dall go is S1 X→X∧∀ i∈is,go i fun S2=>S2=S1
  | [],_,_,h=>⟨h,fun i hi=>by cases hi⟩
  | i::is,S1,X,h=>by
    obtain ⟨S2,h1,h2⟩:=hg i _ h
    obtain ⟨h3,h4⟩:=sameS_out h1
    obtain ⟨h5,h6⟩:=dall_out hg h4
    refine ⟨h5,fun k hk=>?_⟩
    rcases List.mem_cons.1 hk with rfl | hk
    · exact h2 _ h3
    · exact h6 k hk
theorem pickFree_spec {pl:Pol} {ops:Array Oper} {ws:List Nat} {listed:Array Bool}:∀ {is:List Nat} {k:Nat},pickFree pl ops ws listed is=some k→k∈is∧free2 pl ops ws listed k=true∧∃ o,ops[k]?=some o∧easy (clsD pl o)=true
  | [],_,h=>by cases h
  | i::is,k,h=>by
    unfold pickFree at h
    split at h
    · rename_i hb
      cases h
      simp only [Bool.and_eq_true] at hb
      refine ⟨List.mem_cons_self,hb.2,?_⟩
      have h1:=hb.1
      split at h1
      · rename_i o ho; exact ⟨o,ho,h1⟩
      · cases h1
    · obtain ⟨h1,h2⟩:=pickFree_spec h
      exact ⟨List.mem_cons_of_mem _ h1,h2⟩
theorem agI_of_dgo {C:Ctx} {pl:Pol} {ops:Array Oper} {i:Nat} {S:St} {K:St→Prop} (h:dgo C pl ops i S K):agI C pl ops i K S:=by
  unfold dgo at h
  unfold agI
  split at h
  · exact False.elim h
  · rename_i o ho
    rw [ho]
    exact h
theorem agI_mono {C:Ctx} (hC:CDet C) {pl:Pol} {ops:Array Oper} {i:Nat} {S:St} {K K':St→Prop} (h:agI C pl ops i K S) (hk:∀ S,K S→K' S):agI C pl ops i K' S:=by
  unfold agI at h ⊢
  split
  · rename_i ho; rw [ho] at h; exact hk _ h
  · rename_i o ho; rw [ho] at h; exact ag_mono hC h hk
theorem aAny_of {C:Ctx} (hC:CDet C) {pl:Pol} {ops:Array Oper} {Q:St→Prop}:∀ (n:Nat) (listed:Array Bool) (S:St),Closed ops listed→dAny C pl ops (waitSets ops.toList []) n listed S Q→aAny C pl ops Q n listed S
  | 0,listed,S,_,h=>by
    unfold dAny at h
    split at h
    · rename_i he; exact ⟨he,h⟩
    · exact False.elim h
  | n + 1,listed,S,hcl,h=>by
    unfold dAny at h
    split at h
    · rename_i he
      exact ⟨fun _=>h,fun i hi=>by rw [he] at hi; cases hi⟩
    · rename_i r rs he
      split at h
      · rename_i k hk
        obtain ⟨hm,hf,o,ho,hez⟩:=pickFree_spec hk
        rw [← he] at hm
        have h1:=agI_of_dgo h
        unfold agI at h1
        rw [ho] at h1
        obtain ⟨v,m,hy,hK⟩:=ag_eff hC hez h1
        exact aAny_first hC ho n listed S hcl (free2_spec ho hf) hm hy (aAny_of hC n _ _ (hcl.set hm) hK)
      · have hdet:∀ i,Det (fun K':St→Prop=>dgo C pl ops i S fun S'=>dAny C pl ops (waitSets ops.toList []) n (listed.setIfInBounds i true) S' K'):=fun i=>Det.bind (dgo_det hC) (fun S'=>dAny_det hC n _ S')
        obtain ⟨S1,h1,h2⟩:=hdet r _ h
        obtain ⟨h3,h4⟩:=dall_out hdet h1
        refine ⟨fun h0=>(by rw [he] at h0; cases h0),fun i hi=>?_⟩
        have hi':=hi
        rw [he] at hi'
        have hgo:dgo C pl ops i S fun S'=>dAny C pl ops (waitSets ops.toList []) n (listed.setIfInBounds i true) S' Q:=by
          rcases List.mem_cons.1 hi' with rfl | hi'
          · exact h2 Q h3
          · obtain ⟨S2,h5,h6⟩:=hdet i _ (h4 i hi')
            exact h6 Q (by rw [h5]; exact h3)
        exact agI_mono hC (agI_of_dgo hgo) (fun S' h=>aAny_of hC n _ S' (hcl.set hi) h)
def ZR (P:Program) (e:TypeId) (cs:List AV):Prop:=∃ i z,P.info? e=some i∧i.zero=some z∧∀ E,VRs E cs z.cells.toList
theorem killA_ofC1 (k:Key) (c:Value):killA 4 k (ofC1 c)=ofC1 c:=by
  unfold ofC1
  split <;> rfl
theorem zeroRow_sound2 {P:Program} {e:TypeId} {k:List AV→Prop} (h:zeroRow P e k):∃ cs,ZR P e cs∧k cs∧∀ k:Key,cs.map (killA 4 k)=cs:=by
  unfold zeroRow at h
  split at h
  · rename_i i hi
    split at h
    · rename_i z hz
      obtain ⟨h1,h2⟩:=Chk_elim h
      rw [forceAL_iff] at h2
      obtain ⟨i',z',cs,hi',hz',_,he,hcs⟩:=zeroRow_sound (P:=P) (e:=e) (k:=fun cs=>cs=z.cells.toList.map ofC1) (by
        unfold zeroRow
        rw [hi]
        dsimp only
        rw [hz]
        dsimp only
        refine Chk_intro h1 ?_
        rw [forceAL_iff])
      subst he
      refine ⟨_,⟨i',z',hi',hz',hcs⟩,h2,fun k=>?_⟩
      rw [List.map_map]
      exact List.map_congr_left fun c _=>killA_ofC1 k c
    · exact False.elim h
  · exact False.elim h
theorem SimM.drawn {G:Gh} {p:Nat→Option (List AV)} {E:Env} {S:St} {w:World} {n:Nat} (h:SimM G p E S w):SimM G p E S { w with drawn:=n } :=
  ⟨h.hp,h.os,h.tape,h.output,h.size,h.keep,h.F0,h.Flt,h.Fnew,h.own,h.inj,h.loc,h.obj,h.old,h.bl,h.szs,h.pk,h.ow⟩
theorem LocR.congr {p p':Nat→Option (List AV)} {E:Env} {x:Option (List AV)} {d:Nat} (h:LocR p E x d) (hp:p' d=p d):LocR p' E x d:=by
  unfold LocR at *
  cases x with
  | none=>exact h
  | some row =>
    rcases h with h | ⟨h1,h2,h3⟩
    · exact .inl h
    · exact .inr ⟨h1,hp.trans h2,h3⟩
def pAfter (o:Oper) (p:Nat→Option (List AV)):Nat→Option (List AV) :=
  match o.op,o.dst with
  | .alloc _,some d=>fun x=>if x=d then none else p x
  | _,_=>p
theorem pAfter_not {o:Oper} {p:Nat→Option (List AV)} (h:∀ e,o.op≠.alloc e):pAfter o p=p:=by
  unfold pAfter
  split
  · rename_i e d ho _
    exact (h _ ho).elim
  · rfl
theorem pAfter_alloc {o:Oper} {p:Nat→Option (List AV)} {e:TypeId} {d:Nat} (h:o.op=.alloc e) (hd:o.dst=some d):pAfter o p=fun x=>if x=d then none else p x:=by
  unfold pAfter
  rw [h,hd]
section
variable {G:Gh} {p:Nat→Option (List AV)} {E:Env} {S:St} {w:World} {C:Ctx} {pl:Pol} {o:Oper} {a:Act} {K:St→Prop}
theorem dalloc_sound {d:Nat} {e:TypeId} {cs:List AV} (hM:SimM G p E S w) (ht:TR G E S.t a) (ho:o.op=.alloc e) (hd:o.dst=some d) (hp:p d=some cs) (hz:ZR C.P e cs) (hpos:0<cs.length)
    (h:K (setT S (some d) (.ptr (.L d) 0 0))) (next:Act→World→Prop) (Q:Exit→Act→World→Prop)
    (hn:∀ S' E' a' w',K S'→SimM G (pAfter o p) E' S' w'→TR G E' S'.t a'→next a' w'):o.wp C.P a w next Q:=by
  obtain ⟨i,z,hi,hz,hcs⟩:=hz
  obtain ⟨hmu,hrow⟩:=hM.pk d cs hp
  have hrun:(execOp a.eval o).run C.P w=.ok (.value (.pointer (some ⟨w.heap.size,0,none⟩))) { w with heap:=w.heap.push (.cells z.cells e) }:=by
    simp [execOp,ho,Instr.alloc,run_zeroValue hi hz,run_newVar]
  refine wp_value hrun ?_
  have arr:∀ {E1:Env},VRs E1 cs z.cells.toList→ArrR E1 (w.heap.push (.cells z.cells e)) [cs] w.heap.size 0 cs.length:=by
    intro E1 hcs1
    refine ArrR.of_rows hpos (fun r hr=>by simp at hr; subst hr; rfl) (push_get w _) (by have:=hcs1.1; simp at this; simp; omega) (fun i row r c h1 h2=>?_)
    cases i with
    | zero =>
      simp at h1
      subst h1
      obtain ⟨u,hu,hv⟩:=hcs1.get h2
      exact ⟨u,by simpa using hu,hv⟩
    | succ i=>simp at h1
  rw [pAfter_alloc ho hd] at hn
  obtain ⟨hle,hS⟩:=hM.newkey' (p':=fun x=>if x=d then none else p x) (ob:=.cells z.cells e) (key:=.L d) (sz:=cs.length) (n:=1) (fun x hx=>if_neg fun h=>hx (by rw [h])) (fun x hx=>by cases hx; exact if_pos rfl) hmu
    (M':=S) (fun _ _=>rfl) (fun _ _=>rfl) rfl hM.bl (fun id he=>by cases he)
    (fun e he hle=>by
      cases he
      rw [hrow]
      refine .inl ⟨w.heap.size,?_,arr (hcs _)⟩
      show addMu E.mu (.L d) _ (.L d)=_
      unfold addMu
      rw [if_pos rfl])
    (fun id he=>by cases he) noL_ow
  refine hn _ _ _ _ h (hS.congr setT_l setT_o setT_b) ?_
  have:=(ht.mono hle).put (S:=S) (dst:=o.dst) (c:=.ptr (.L d) 0 0) (u:=.pointer (some ⟨w.heap.size,0,none⟩)) (by
    have hmu':addMu E.mu (.L d) (.blk w.heap.size 0 cs.length 1) (.L d)=some (.blk w.heap.size 0 cs.length 1):=by unfold addMu; rw [if_pos rfl]
    have:=VR.ptr (E:=⟨E.F,addMu E.mu (.L d) (.blk w.heap.size 0 cs.length 1),w.heap.push (.cells z.cells e)⟩) 0 0 rfl hmu'
    simpa using this)
  rw [hd] at this ⊢
  exact this
theorem cls_alloc {e:TypeId} (ho:o.op=.alloc e):clsD pl o=4:=by
  have hw:ownOp pl o=false:=by unfold ownOp; rw [ho]
  unfold clsD
  rw [hw]
  dsimp only
  unfold clsD0
  rw [ho]
theorem wcall_sound {C:Ctx} (hC:CallOK C) {pl:Pol} {o:Oper} {S:St} {K:St→Prop} {G:Gh} {pd:Nat→Option (List AV)} {E:Env} {w:World} {a:Act} {c:Call} (hM:SimM G pd E S w) (ht:TR G E S.t a) (ho:o.op=.call c) (h:wop1D C pl o S K):XStep C.P G pd o a w K:=by
  unfold wop1D at h
  obtain ⟨vs,h,hv⟩:=getsK_elim ht h
  have hw:ownOp pl o=false:=by unfold ownOp; rw [ho]
  unfold wopD at h
  rw [hw] at h
  dsimp only at h
  unfold wopD0 at h
  rw [ho] at h hv
  split at h
  · rename_i he; cases he
  · rename_i c' fid first cap as he
    cases he
    split at h
    · rename_i x hcal
      obtain ⟨h1,h⟩:=Chk_elim h
      simp only [Bool.and_eq_true] at h1
      have hv:VRs E (.fn fid first cap::as) (a.eval x::c.args.toList.map a.eval):=by simpa [Op.operands,Call.operands,hcal] using hv
      obtain ⟨u,us,e,hf,has⟩:=hv.uncons
      cases e
      obtain ⟨g1,g2⟩:=hC.scall _ _ _ _ h
      refine scall_sound hM ht ho hcal hf has h1.2 ⟨g1,fun E w us hM hg hv=>(g2 E w us hM hg hv).mono ?_⟩
      rintro e w' ⟨v,r,o',E',hk,rest⟩
      obtain ⟨h4,h5⟩:=Chk_elim hk
      refine ⟨v,r,o',E',?_,rest⟩
      have h4:deadNow S.o o' 0=[]:=List.isEmpty_iff.1 h4
      show killTL (deadNow S.o o' 0) S.t S.l _
      rw [h4]
      exact h5
    · exact h.elim
  · rename_i hne
    unfold wop at h
    rw [ho] at h
    exact h.elim
theorem wop1D_sound {C:Ctx} (hC:CallOK C) {pl:Pol} {o:Oper} {S:St} {K:St→Prop} {G:Gh} {pd:Nat→Option (List AV)} {E:Env} {w:World} {a:Act} (hM:SimM G pd E S w) (ht:TR G E S.t a) (h:wop1D C pl o S K):XStep C.P G pd o a w K:=by
  cases hw:ownOp pl o with
  | true =>
    refine own1_sound (pl:=pl) hM ht ?_
    unfold wop1D at h
    unfold own1
    have e:∀ vs M k,wopD C pl o vs M k=ownD C.P pl o vs M k:=fun vs M k=>by unfold wopD; rw [hw]
    simp only [e] at h
    exact h
  | false =>
  have e:∀ vs M k,wopD C pl o vs M k=wopD0 C o vs M k:=fun vs M k=>by unfold wopD; rw [hw]
  by_cases hmk:memOp pl o
  · rcases hmk with (⟨t,X,Y,ho⟩ | ⟨c,ho⟩) | hmk
    rotate_left
    · exact wcall_sound hC hM ht ho h
    · rw [hw] at hmk; cases hmk
    refine makeSlice_sound (bx:=false) hM ht ho ?_
    unfold wop1D at h
    simp only [e] at h
    rw [ho] at h
    have h':getK S X fun l=>getK S Y fun c=>makeSliceK C.P t l c (memOf S) fun M' r=>putK o.dst r (withM S M') K:=by
      have h:getK S X fun l=>getK S Y fun c=>wopD0 C o [l,c] (memOf S) fun r M=>putK o.dst r (withM S M) K:=h
      obtain ⟨l,h1,h2⟩:=getK_det _ h
      obtain ⟨c,h3,h4⟩:=getK_det _ h1
      refine h2 (fun l=>getK S Y fun c=>makeSliceK C.P t l c (memOf S) fun M' r=>putK o.dst r (withM S M') K) (h4 (fun c=>makeSliceK C.P t l c (memOf S) fun M' r=>putK o.dst r (withM S M') K) ?_)
      unfold wopD0 at h3
      rw [ho] at h3
      exact h3
    obtain ⟨l,h1,h2⟩:=getK_det _ h'
    obtain ⟨c,h3,h4⟩:=getK_det _ h1
    refine h2 (fun l=>getK S Y fun c=>makeSliceK C.P t l c S fun S' r=>putK o.dst r S' K) (h4 (fun c=>makeSliceK C.P t l c S fun S' r=>putK o.dst r S' K) ?_)
    unfold makeSliceK at h3 ⊢
    exact h3
  · refine wop1_sound hM ht ?_
    unfold wop1D at h
    unfold wop1
    obtain ⟨vs,h1,h2⟩:=getsK_det _ h
    refine h2 (fun vs=>wop C o vs (memOf S) fun r M=>putK o.dst r (withM S M) K) ?_
    rw [wopD_store hmk] at h1
    exact h1
theorem dop_sound (hC:CallOK C) (hM:SimM G p E S w) (ht:TR G E S.t a) (hA:∀ e d,o.op=.alloc e→o.dst=some d→∃ cs,p d=some cs∧0<cs.length∧ZR C.P e cs) (h:dop C pl o S K) (next:Act→World→Prop) (Q:Exit→Act→World→Prop)
    (hn:∀ S' E' a' w',K S'→SimM G (pAfter o p) E' S' w'→TR G E' S'.t a'→next a' w'):o.wp C.P a w next Q:=by
  by_cases hal:∃ e,o.op=.alloc e
  · obtain ⟨e,ho⟩:=hal
    unfold dop at h
    rw [cls_alloc ho] at h
    have h':match o.dst with
      | some d=>putK o.dst (.ptr (.L d) 0 0) S K
      | none=>Fail 217:=h
    split at h'
    · rename_i d hd
      obtain ⟨cs,h3,h4,h5⟩:=hA e d ho hd
      rw [putK_iff,hd] at h'
      exact dalloc_sound hM ht ho hd h3 h5 h4 h' next Q hn
    · exact False.elim h'
  · rw [pAfter_not (fun e he=>hal ⟨e,he⟩)] at hn
    unfold dop at h
    split at h
    · exact pop1_sound hM ht h next Q hn
    · exact rop1_sound hC hM ht h next Q hn
    · exact wop1D_sound hC hM ht h next Q hn
    · rename_i hc
      exfalso
      unfold clsD at hc
      rw [own_false (by unfold clsD; rw [hc]; decide)] at hc
      dsimp only at hc
      unfold clsD0 at hc
      split at hc
      · split at hc <;> cases hc
      · rename_i e ho; exact hal ⟨e,ho⟩
      · split at hc <;> cases hc
      · split at hc
        · split at hc
          · cases hc
          · split at hc <;> cases hc
        · split at hc <;> cases hc
        · split at hc <;> cases hc
        · unfold cls at hc
          split at hc <;> try (cases hc; done)
          all_goals (split at hc <;> cases hc)
      · unfold cls at hc
        split at hc <;> try (cases hc; done)
        all_goals (split at hc <;> cases hc)
    · exact fop1_sound hM ht h next Q hn
    · split at h
      · exact False.elim h
      · rename_i hb
        exact xop_sound hC (fun he=>by rw [hb] at he; cases he) hM ht h next Q hn
end
def Inv (P:Program) (p:Nat→Option (List AV)) (ops:Array Oper) (listed:Array Bool):Prop :=
  ∀ (i:Nat) (o:Oper) (e:TypeId) (d:Nat),ops[i]?=some o→o.op=.alloc e→o.dst=some d→listed.getD i true=false→∃ cs,p d=some cs∧0<cs.length∧ZR P e cs
def Apart1 (ops:Array Oper):Prop:=∀ (i i':Nat) (o o':Oper) (e e':TypeId) (d:Nat),ops[i]?=some o→ops[i']?=some o'→o.op=.alloc e→o'.op=.alloc e'→o.dst=some d→o'.dst=some d→i=i'
theorem listed_set {listed:Array Bool} {i:Nat}:(listed.setIfInBounds i true).getD i true=true:=by
  simp only [Array.getD_eq_getD_getElem?,Array.getElem?_setIfInBounds,if_pos]
  split <;> rfl
theorem Inv.step {P:Program} {p:Nat→Option (List AV)} {ops:Array Oper} {listed:Array Bool} {i:Nat} {o:Oper} (h:Inv P p ops listed) (hap:Apart1 ops) (hi:ops[i]?=some o) :
    Inv P (pAfter o p) ops (listed.setIfInBounds i true):=by
  intro j oj e d hj hoj hdj hjun
  have hij:i≠j:=fun he=>by subst he; rw [listed_set] at hjun; cases hjun
  rw [getD_set_ne true hij] at hjun
  obtain ⟨cs,h1,h2⟩:=h j oj e d hj hoj hdj hjun
  refine ⟨cs,?_,h2⟩
  by_cases hal:∃ e,o.op=.alloc e
  · obtain ⟨e',ho⟩:=hal
    cases hd:o.dst with
    | none =>
      unfold pAfter
      rw [ho,hd]
      exact h1
    | some d' =>
      rw [pAfter_alloc ho hd]
      show (if d=d' then none else p d)=_
      rw [if_neg (fun he=>by subst he; exact hij (hap i j o oj e' e d hi hj ho hoj hd hdj))]
      exact h1
  · rw [pAfter_not (fun e he=>hal ⟨e,he⟩)]
    exact h1
theorem pAfter_sub {o:Oper} {p:Nat→Option (List AV)} {d:Nat} (h:pAfter o p d≠none):p d≠none:=by
  by_cases hal:∃ e,o.op=.alloc e
  · obtain ⟨e',ho⟩:=hal
    cases hd:o.dst with
    | none =>
      unfold pAfter at h
      rw [ho,hd] at h
      exact h
    | some d' =>
      rw [pAfter_alloc ho hd] at h
      intro hn
      apply h
      show (if d=d' then none else p d)=none
      split
      · rfl
      · exact hn
  · rw [pAfter_not (fun e he=>hal ⟨e,he⟩)] at h
    exact h
theorem dop_nd {C:Ctx} {pl:Pol} {o:Oper} {S:St} {K:St→Prop} (h:dop C pl o S K) (c:Call):o.op≠.defer c:=by
  intro ho
  have hw:ownOp pl o=false:=by unfold ownOp; rw [ho]
  have hc:clsD pl o=3:=by unfold clsD; rw [hw]; dsimp only; unfold clsD0; rw [ho]; dsimp only; unfold cls; rw [ho]
  have hb:isBox pl o=false:=by unfold isBox; rw [ho]
  have h1:xop C pl o S K:=by unfold dop at h; rw [hc,hb] at h; exact h
  unfold xop at h1
  rw [ho] at h1
  exact h1
def Q0 (Q:Exit→Act→World→Prop) (e:Exit) (a:Act) (w:World):Prop:=e=.normal∧Q .normal a w
theorem wp_q0 {P:Program} {o:Oper} {a:Act} {w:World} {next:Act→World→Prop} {Q:Exit→Act→World→Prop} (h:o.wp P a w next (Q0 Q)):o.wp P a w next Q:=by
  unfold Oper.wp at *
  revert h
  generalize (execOp a.eval o).run P w=x
  intro h
  cases x with
  | ok x w' =>
    cases x with
    | enter f args=>exact Calls.mono h (fun e w'' he=>by
        cases e with
        | returned v=>exact he
        | panicked c=>exact absurd he.1 (fun h=>by cases h)
        | outgrown=>obtain ⟨_,_,h,_⟩:=he; cases h)
    | _=>exact h
  | halt x w' =>
    cases x with
    | panic v=>exact absurd h.1 (fun h=>by cases h)
    | _=>exact h
theorem ndB_spec {ops:Array Oper} (h:ndB ops=true):Region.noSelect ops=true∧∀ (i:Nat) (o:Oper),ops[i]?=some o→∀ c,o.op≠.defer c:=by
  unfold ndB at h
  rw [Bool.and_eq_true] at h
  refine ⟨h.1,fun i o ho c hc=>?_⟩
  have:=List.all_eq_true.1 h.2 o (by rw [Array.mem_toList_iff]; exact Array.mem_of_getElem? ho)
  rw [hc] at this
  cases this
theorem wpAny_rd {P:Program} {rr:Option Nat} {ops:Array Oper} {Q:Exit→Act→World→Prop} (hnd:∀ (i:Nat) (o:Oper),ops[i]?=some o→∀ c,o.op≠.defer c) :
    ∀ (fuel:Nat) (listed:Array Bool) (a:Act) (w:World),wpAny P .any ops (Q0 Q) fuel listed a w→wpAnyIn (rd rr) 0 P .any ops Q fuel listed a w
  | 0,_,_,_,h=>⟨h.1,h.2.2⟩
  | fuel + 1,listed,a,w,h=>by
    refine ⟨fun h0=>(h.1 h0).2,fun i hi=>?_⟩
    have h1:=h.2 i hi
    unfold wpOpIn
    unfold wpOp at h1
    split at h1
    · rename_i ho
      rw [ho]
      exact wpAny_rd hnd fuel _ _ _ h1
    · rename_i o ho
      rw [ho]
      dsimp only
      split at h1
      · rename_i hw
        rw [if_pos hw]
        rcases h1 with h1 | ⟨_,_,_,h1,_⟩
        · exact op_in (hnd i o ho) (wp_q0 (Oper.wp_mono (fun a w h=>wpAny_rd hnd fuel _ _ _ h) h1))
        · cases h1
      · rename_i hw
        rw [if_neg hw]
        exact ⟨fun _ _=>trivial,wpAny_rd hnd fuel _ _ _ h1⟩
theorem aAny_sound {C:Ctx} (hC:CallOK C) {pl:Pol} {ops:Array Oper} {G:Gh} {A:Nat→Prop} {Q:St→Prop} {Qc:Exit→Act→World→Prop} (hap:Apart1 ops) (hg:∀ (i:Nat) (o:Oper) (e:TypeId),ops[i]?=some o→o.op=.alloc e→o.guard=none)
    (hQ:∀ p S' E' a' w',(∀ d,p d≠none→A d)→Q S'→SimM G p E' S' w'→TR G E' S'.t a'→Qc .normal a' w') :
    ∀ (fuel:Nat) (listed:Array Bool) (p:Nat→Option (List AV)) (S:St) (E:Env) (a:Act) (w:World),(∀ d,p d≠none→A d)→SimM G p E S w→TR G E S.t a→Inv C.P p ops listed→aAny C pl ops Q fuel listed S→wpAny C.P .any ops Qc fuel listed a w
  | 0,_,_,_,_,_,_,hA,hM,ht,_,h=>⟨h.1,hQ _ _ _ _ _ hA h.2 hM ht⟩
  | fuel + 1,listed,p,S,E,a,w,hA,hM,ht,hI,h=>by
    refine ⟨fun h0=>hQ _ _ _ _ _ hA (h.1 h0) hM ht,fun i hi=>?_⟩
    have h1:=h.2 i hi
    obtain ⟨hun,o,ho,_⟩:=mem_ready.1 hi
    unfold agI at h1
    unfold wpOp
    rw [ho] at h1 ⊢
    dsimp only at h1 ⊢
    have goon:∀ S' E' a' w',aAny C pl ops Q fuel (listed.setIfInBounds i true) S'→SimM G (pAfter o p) E' S' w'→TR G E' S'.t a'→wpAny C.P .any ops Qc fuel (listed.setIfInBounds i true) a' w' :=
      fun S' E' a' w' hk hS htr=>aAny_sound hC hap hg hQ fuel _ _ S' E' a' w' (fun d hd=>hA d (pAfter_sub hd)) hS htr (hI.step hap ho) hk
    have step:∀ {S1:St},SimM G p E S1 w→TR G E S1.t a→dopc C pl ops o S1 (aAny C pl ops Q fuel (listed.setIfInBounds i true))→Region.wanted o (yielded ops a.tmps)=true→(if Region.wanted o (yielded ops a.tmps) then o.wp C.P a w (wpAny C.P .any ops Qc fuel (listed.setIfInBounds i true)) Qc∨(o.asks C.P a w∧LetsOut Qc) else wpAny C.P .any ops Qc fuel (listed.setIfInBounds i true) (a.put o.dst undef) w):=by
      intro S1 hM1 ht1 h hw
      obtain ⟨_,h⟩:=Chk_elim h
      rw [if_pos hw]
      exact .inl (dop_sound hC hM1 ht1 (fun e d h1 h2=>hI i o e d ho h1 h2 hun) h _ _ goon)
    unfold ag at h1
    split at h1
    · rename_i hgd
      exact step hM ht h1 (by unfold Region.wanted; rw [hgd])
    · rename_i j want hgd
      split at h1
      · exact False.elim h1
      · rename_i d hd
        obtain ⟨b,S1,h1,hb,hM1,ht1⟩:=guardAt_elim hM ht h1
        rcases gsel_wanted hgd (yielded_of hd hb) h1 with ⟨hw,h1⟩ | ⟨hw,h1⟩
        · exact step hM1 ht1 h1 hw
        · rw [putK_iff] at h1
          rw [if_neg (by rw [hw]; exact fun h=>by cases h)]
          have hnal:∀ e,o.op≠.alloc e:=fun e he=>by
            have:=hg i o e ho he
            rw [hgd] at this
            cases this
          refine goon _ E _ w h1 ?_ (ht1.put (VR_undef _))
          rw [pAfter_not hnal]
          exact hM1.congr setT_l setT_o setT_b
theorem pureOp_cls {pl:Pol} {o:Oper} (h:pureOp o=true):clsD pl o=0∧o.guard=none∧(∀ t len parts,o.op≠.buildSlice t len parts)∧∀ e,o.op≠.alloc e:=by
  unfold pureOp at h
  split at h
  · cases h
  · rename_i hg
    split at h
    all_goals first
      | (rename_i ho; refine ⟨?_,hg,fun _ _ _ he=>(by rw [ho] at he; cases he),fun _ he=>(by rw [ho] at he; cases he)⟩; unfold clsD ownOp; rw [ho]; dsimp only; unfold clsD0; rw [ho]; dsimp only; unfold cls; rw [ho])
      | cases h
theorem pure_sound {C:Ctx} {pl:Pol} {o:Oper} {vs:List AV} {k:AV→Prop} {E:Env} {a:Act} (hp:pureOp o=true) (h:pop C pl o vs k) (hv:VRs E vs (o.op.operands.toList.map a.eval)):∃ r z,k r∧VR E r z∧∀ w,(execOp a.eval o).run C.P w=.ok (.value z) w:=by
  unfold pureOp at hp
  split at hp
  · cases hp
  · split at hp
    · rename_i x ho
      rw [ho] at hv
      unfold pop at h
      rw [ho] at h
      split at h <;> rename_i he <;> first | (cases he; done) | skip
      all_goals first
        | (cases he
           obtain ⟨u,us,e,hc,hn⟩:=hv.uncons
           simp [Op.operands] at e
           exact ⟨_,_,h,hc,fun w=>by simp [execOp,ho,e.1]⟩)
        | exact h.elim
    · rename_i x ho
      rw [ho] at hv
      unfold pop at h
      rw [ho] at h
      split at h <;> rename_i he <;> first | (cases he; done) | skip
      all_goals first
        | (cases he
           obtain ⟨u,us,e,hc,hn⟩:=hv.uncons
           simp [Op.operands] at e
           exact ⟨_,_,h,hc,fun w=>by simp [execOp,ho,e.1]⟩)
        | exact h.elim
    · rename_i x ho
      rw [ho] at hv
      unfold pop at h
      rw [ho] at h
      split at h <;> rename_i he <;> first | (cases he; done) | skip
      all_goals first
        | (cases he
           obtain ⟨u,us,e,hc,hn⟩:=hv.uncons
           simp [Op.operands] at e
           have hc0:=hc
           cases hc with
           | ptr _ _ hs0 hm=>exact ⟨_,_,h,hc0,fun w=>by simp [execOp,ho,e.1]⟩)
        | (cases he
           obtain ⟨u,us,e,hc,hn⟩:=hv.uncons
           simp [Op.operands] at e
           have hc0:=hc
           cases hc with
           | fptr _ us h1 h2 h3 h4=>exact ⟨_,_,h,hc0,fun w=>by simp [execOp,ho,e.1]⟩)
        | (cases he
           obtain ⟨u,us,e,hc,hn⟩:=hv.uncons
           simp [Op.operands] at e
           have hc0:=hc
           cases hc with
           | fn us ws h1 h2 h3 h4=>exact ⟨_,_,h,hc0,fun w=>by simp [execOp,ho,e.1]⟩)
        | exact h.elim
    · rename_i t x f ho
      rw [ho] at hv
      unfold pop at h
      rw [ho] at h
      split at h <;> rename_i he <;> first | (cases he; done) | skip
      all_goals first
        | (cases he
           obtain ⟨u,us,e,hc,hn⟩:=hv.uncons
           simp [Op.operands] at e
           obtain ⟨r,z,hk,hr,hrun⟩:=fieldAddr_sound h hc
           exact ⟨r,z,hk,hr,fun w=>by simp [execOp,ho,e.1,hrun w]⟩)
        | exact h.elim
    · cases hp
theorem pickPure_spec {ops:Array Oper} {listed:Array Bool}:∀ {is:List Nat} {i:Nat},pickPure ops listed is=some i→i∈is∧∃ o,ops[i]?=some o∧pureOp o=true∧Region.free .any ops listed i=true
  | [],_,h=>by cases h
  | j::js,i,h=>by
    unfold pickPure at h
    split at h
    · rename_i hb
      cases h
      rw [Bool.and_eq_true] at hb
      obtain ⟨h1,h2⟩:=hb
      split at h1
      · rename_i o ho
        exact ⟨List.mem_cons_self,o,ho,h1,h2⟩
      · cases h1
    · obtain ⟨h1,h2⟩:=pickPure_spec h
      exact ⟨List.mem_cons_of_mem _ h1,h2⟩
theorem dPre_sound {C:Ctx} (hD:CDet C) (hC:CallOK C) {pl:Pol} {ops:Array Oper} {G:Gh} {A:Nat→Prop} {Q:St→Prop} {Qc:Exit→Act→World→Prop} (hs:Region.noSelect ops=true) (hap:Apart1 ops) (hg:∀ (i:Nat) (o:Oper) (e:TypeId),ops[i]?=some o→o.op=.alloc e→o.guard=none)
    (hQ:∀ p S' E' a' w',(∀ d,p d≠none→A d)→Q S'→SimM G p E' S' w'→TR G E' S'.t a'→Q0 Qc .normal a' w') :
    ∀ (fuel:Nat) (listed:Array Bool) (p:Nat→Option (List AV)) (S:St) (E:Env) (a:Act) (w:World),(∀ d,p d≠none→A d)→SimM G p E S w→TR G E S.t a→Inv C.P p ops listed→Closed ops listed→dPre C pl ops (waitSets ops.toList []) fuel listed S Q→wpAny C.P .any ops (Q0 Qc) fuel listed a w
  | 0,listed,p,S,E,a,w,hA,hM,ht,hI,hcl,h=>aAny_sound hC hap hg hQ 0 listed p S E a w hA hM ht hI (aAny_of hD 0 listed S hcl h)
  | fuel + 1,listed,p,S,E,a,w,hA,hM,ht,hI,hcl,h=>by
    unfold dPre at h
    split at h
    · rename_i i hi
      obtain ⟨hm,o,ho,hp,hf⟩:=pickPure_spec hi
      obtain ⟨hc0,hgd,_,hnal⟩:=pureOp_cls (pl:=pl) hp
      unfold dgo at h
      rw [ho] at h
      dsimp only at h
      unfold ag at h
      rw [hgd] at h
      obtain ⟨_,h⟩:=Chk_elim h
      unfold dop at h
      rw [hc0] at h
      obtain ⟨vs,h,hv⟩:=getsK_elim ht h
      obtain ⟨r,z,hk,hr,hrun⟩:=pure_sound hp h hv
      rw [putK_iff] at hk
      refine wpAny_take ho hs hf (by simpa using hm) (fun c a w hq=>absurd hq.1 (fun h=>by cases h)) (v:=z) (.inl ⟨by unfold Region.wanted; rw [hgd],hrun⟩) ?_
      have hI':=hI.step hap ho
      rw [pAfter_not hnal] at hI'
      exact dPre_sound hD hC hs hap hg hQ fuel _ p _ E _ w hA (hM.congr setT_l setT_o setT_b) (ht.put hr) hI' (hcl.set hm) hk
    · exact aAny_sound hC hap hg hQ (fuel + 1) listed p S E a w hA hM ht hI (aAny_of hD (fuel + 1) listed S hcl h)
theorem allocs_mem {o:Oper} {e:TypeId} {d:Nat} (h1:o.op=.alloc e) (h2:o.dst=some d):∀ {os:List Oper},o∈os→(d,e)∈allocs os:=by
  intro os
  induction os with
  | nil=>intro h; cases h
  | cons x xs ih =>
    intro h
    rcases List.mem_cons.1 h with rfl | h
    · unfold allocs
      rw [h1,h2]
      exact List.mem_cons_self
    · have:=ih h
      unfold allocs
      split
      · exact List.mem_cons_of_mem _ this
      · exact this
theorem hasN_mem {d:Nat}:∀ {xs:List Nat},d∈xs→hasN xs d=true:=by
  intro xs
  induction xs with
  | nil=>intro h; cases h
  | cons x xs ih =>
    intro h
    rcases List.mem_cons.1 h with rfl | h
    · simp [hasN]
    · simp [hasN,ih h]
theorem allocs_tail {pl:Pol} {x:Oper} {xs:List Oper} (hB:allocsB pl (allocs (x::xs))=true):allocsB pl (allocs xs)=true:=by
  unfold allocs at hB
  split at hB
  · unfold allocsB at hB
    simp only [Bool.and_eq_true] at hB
    exact hB.2
  · exact hB
theorem allocs_apart {pl:Pol} {o o':Oper} {e e':TypeId} {d:Nat} (h3:o.op=.alloc e) (h4:o'.op=.alloc e') (h5:o.dst=some d) (h6:o'.dst=some d):∀ (os:List Oper),allocsB pl (allocs os)=true→∀ (i i':Nat),i<i'→os[i]?=some o→os[i']?=some o'→False:=by
  intro os
  induction os with
  | nil=>intro _ i i' _ h1; simp at h1
  | cons x xs ih =>
    intro hB i i' hlt h1 h2
    cases i' with
    | zero=>omega
    | succ i' =>
      rw [List.getElem?_cons_succ] at h2
      cases i with
      | zero =>
        rw [List.getElem?_cons_zero] at h1
        cases h1
        have hm:=allocs_mem h4 h6 (List.mem_of_getElem? h2)
        unfold allocs at hB
        rw [h3,h5] at hB
        unfold allocsB at hB
        simp only [Bool.and_eq_true,Bool.not_eq_true'] at hB
        have:=hasN_mem (d:=d) (xs:=(allocs xs).map (·.1)) (List.mem_map.2 ⟨_,hm,rfl⟩)
        rw [hB.1.2] at this
        cases this
      | succ i =>
        rw [List.getElem?_cons_succ] at h1
        exact ih (allocs_tail hB) i i' (by omega) h1 h2
theorem guards_spec {o:Oper} {e:TypeId} (ho:o.op=.alloc e):∀ {os:List Oper},guardsB os=true→o∈os→o.guard=none:=by
  intro os
  induction os with
  | nil=>intro _ h; cases h
  | cons x xs ih =>
    intro h hm
    unfold guardsB at h
    simp only [Bool.and_eq_true] at h
    rcases List.mem_cons.1 hm with rfl | hm
    · have h1:=h.1
      cases hg:o.guard with
      | none=>rfl
      | some g=>rw [ho,hg] at h1; cases h1
    · exact ih h.2 hm
section
variable {G:Gh} {w:World} {a:Act} {P:Program}
theorem drops_sound:∀ {ds:List Nat} {E:Env} {S:St} {K:St→Prop},SimM G pn E S w→TR G E S.t a→dropsK ds S K→∃ S' E',K S'∧SimM G pn E' S' w∧TR G E' S'.t a∧∀ d,(E.mu (.L d)=none∨d∈ds)→E'.mu (.L d)=none
  | [],E,S,K,hM,ht,h=>⟨S,E,h,hM,ht,fun d hd=>by rcases hd with hd | hd; exact hd; cases hd⟩
  | d::ds,E,S,K,hM,ht,h=>by
    unfold dropsK at h
    rw [dropK_iff] at h
    obtain ⟨E1,h1,h2,h3,_,_,_,_,h4,_,_⟩:=drop_sound hM ht d rfl
    obtain ⟨S',E',h5,h6,h7,h8⟩:=drops_sound h1 h2 h
    refine ⟨S',E',h5,h6,h7,fun e he=>h8 e ?_⟩
    by_cases hed:e=d
    · subst hed; exact .inl h3
    · rcases he with he | he
      · exact .inl ((h4 e hed).trans he)
      · rcases List.mem_cons.1 he with he | he
        · exact absurd he hed
        · exact .inr he
theorem add_sound {pl:Pol} {E:Env}:∀ {xs:List (Nat×TypeId)} {S:St} {p:Nat→Option (List AV)} {K:St→Prop},SimM G p E S w→(∀ d∈xs.map (·.1),E.mu (.L d)=none)→allocsB pl xs=true→addK P xs S K →
    ∃ S' p',K S'∧SimM G p' E S' w∧S'.t=S.t∧(∀ d e,(d,e)∈xs→∃ cs,p' d=some cs∧0<cs.length∧ZR P e cs)∧∀ d,d ∉ xs.map (·.1)→p' d=p d
  | [],S,p,K,hM,_,_,h=>⟨S,p,h,hM,rfl,fun _ _ h=>(by cases h),fun _ _=>rfl⟩
  | (d,e)::xs,S,p,K,hM,hmu,hB,h=>by
    unfold addK at h
    obtain ⟨cs,hz,h,hinv⟩:=zeroRow_sound2 h
    replace h:=Chk_elim h; obtain ⟨hpos,h⟩:=h
    have hpos':0<cs.length:=Nat.le_of_ble_eq_true hpos
    have hd0:=hmu d (by simp)
    unfold allocsB at hB
    simp only [Bool.and_eq_true,Bool.not_eq_true'] at hB
    have hnd:d ∉ xs.map (·.1):=fun hm=>by
      have:=hasN_mem hm
      rw [hB.1.2] at this
      cases this
    have hM1:SimM G (fun x=>if x=d then some cs else p x) E { t:=S.t,l:=(d,cs)::S.l,o:=S.o,b:=S.b } w :=
      ⟨hM.hp,hM.os,hM.tape,hM.output,hM.size,hM.keep,hM.F0,hM.Flt,hM.Fnew,hM.own,hM.inj,fun x=>by
        show LocR _ E (if d=x then some cs else lookL S.l x) x
        by_cases hx:d=x
        · subst hx
          rw [if_pos rfl]
          exact .inr ⟨hd0,by simp,hinv⟩
        · rw [if_neg hx]
          exact (hM.loc x).congr (if_neg fun h=>hx h.symm),hM.obj,hM.old,hM.bl,hM.szs,fun x row hx=>by
        show E.mu (.L x)=none∧(if d=x then some cs else lookL S.l x)=some row
        by_cases hxd:x=d
        · subst hxd
          rw [if_pos rfl] at hx ⊢
          exact ⟨hd0,hx⟩
        · rw [if_neg hxd] at hx
          rw [if_neg (fun h=>hxd h.symm)]
          exact hM.pk x row hx,hM.ow⟩
    obtain ⟨S',p',h1,h2,h3,h4,h5⟩:=add_sound (xs:=xs) hM1 (fun x hx=>hmu x (by simp only [List.map_cons]; exact List.mem_cons_of_mem _ hx)) hB.2 h
    refine ⟨S',p',h1,h2,h3,fun x y hxy=>?_,fun x hx=>?_⟩
    · rcases List.mem_cons.1 hxy with hxy | hxy
      · cases hxy
        refine ⟨cs,?_,hpos',hz⟩
        rw [h5 d hnd]
        simp
      · exact h4 x y hxy
    · have hx':x≠d∧x ∉ xs.map (·.1):=⟨fun he=>hx (by rw [he]; simp),fun hm=>hx (by simp only [List.map_cons]; exact List.mem_cons_of_mem _ hm)⟩
      rw [h5 x hx'.2]
      simp [hx'.1]
theorem post_spec:∀ {xs:List (Nat×TypeId)} {S:St} {X:Prop},postK xs S X→∀ d∈xs.map (·.1),∃ i j,S.t[d]?=some (.ptr (.L d) i j)
  | [],_,_,_,d,hd=>by cases hd
  | (d0,e)::xs,S,X,h,d,hd=>by
    unfold postK at h
    obtain ⟨c,hc,h⟩:=nthK_iff.1 h
    split at h
    · rename_i d' i j
      obtain ⟨hb,h⟩:=Chk_elim h
      simp only [List.map_cons] at hd
      rcases List.mem_cons.1 hd with rfl | hd
      · have:=Nat.eq_of_beq_eq_true hb
        subst this
        exact ⟨i,j,hc⟩
      · exact post_spec h d hd
    · exact False.elim h
end
theorem allocs_fst {xs:List (Nat×TypeId)} {d:Nat} {e:TypeId} (h:(d,e)∈xs):d∈xs.map (·.1):=List.mem_map.2 ⟨_,h,rfl⟩
theorem draw_ok {C:Ctx} (hmix:C.P.follows .mixedOrders=true) (hD:CDet C) (hC:CallOK C):DrawOK C:=by
  intro pl id ops S K h r G E a w Q hM ht hQ
  have h':Chk (drawB pl ops) (preK C.P (allocs ops.toList) S fun S1=>dAll C pl ops S1 fun S'=>postK (allocs ops.toList) S' (postR pl id S' fun S''=>K .nrm S'')):=h
  obtain ⟨hB,h1⟩:=Chk_elim h'
  unfold drawB at hB
  simp only [Bool.and_eq_true] at hB
  obtain ⟨hal,hgd⟩:=hB
  unfold preK at h1
  obtain ⟨S1,E1,h2,hM1,ht1,hmu⟩:=drops_sound hM ht h1
  obtain ⟨S2,p2,h3,hM2,ht2,hrow,hout⟩:=add_sound hM1 (fun d hd=>hmu d (.inr hd)) hal h2
  refine wpIn_region_any hmix ?_
  obtain ⟨hnd,h3⟩:=Chk_elim h3
  obtain ⟨hns,hnd⟩:=ndB_spec hnd
  have hcl:Closed ops (Array.replicate ops.size false):=fun j hj=>by
    simp only [Array.getD_eq_getD_getElem?,Array.getElem?_replicate] at hj
    split at hj <;> simp at hj
  refine wpAny_rd hnd _ _ _ _ ?_
  have h4:dPre C pl ops (waitSets ops.toList []) ops.size (Array.replicate ops.size false) S2 (fun S'=>postK (allocs ops.toList) S' (postR pl id S' fun S''=>K .nrm S''))∨aAny C pl ops (fun S'=>postK (allocs ops.toList) S' (postR pl id S' fun S''=>K .nrm S'')) ops.size (Array.replicate ops.size false) S2:=by
    split at h3
    · exact .inr (aAny_of hD _ _ _ hcl h3)
    · exact .inl h3
  have hap1:Apart1 ops:=by
    intro i i' o o' e e' d h1 h2 h3 h4 h5 h6
    rcases Nat.lt_trichotomy i i' with hlt | heq | hlt
    · exact (allocs_apart h3 h4 h5 h6 _ hal i i' hlt (by rw [Array.getElem?_toList]; exact h1) (by rw [Array.getElem?_toList]; exact h2)).elim
    · exact heq
    · exact (allocs_apart h4 h3 h6 h5 _ hal i' i hlt (by rw [Array.getElem?_toList]; exact h2) (by rw [Array.getElem?_toList]; exact h1)).elim
  have hg1:∀ (i:Nat) (o:Oper) (e:TypeId),ops[i]?=some o→o.op=.alloc e→o.guard=none:=fun i o e h1 h2=>guards_spec h2 hgd (List.mem_of_getElem? (by rw [Array.getElem?_toList]; exact h1))
  have hQ1:∀ p S' E' a' w',(∀ d,p d≠none→d∈(allocs ops.toList).map (·.1))→postK (allocs ops.toList) S' (postR pl id S' fun S''=>K .nrm S'')→SimM G p E' S' w'→TR G E' S'.t a'→Q0 Q .normal a' w':=by
    intro p S' E' a' w' hp hk hS htr
    refine ⟨rfl,?_⟩
    have hps:=post_spec hk
    have hpn:p=pn:=by
      funext d
      cases hd:p d with
      | none=>rfl
      | some row =>
        exfalso
        obtain ⟨i,j,hij⟩:=hps d (hp d (by rw [hd]; exact fun h=>by cases h))
        have hlt:d<a'.tmps.size:=by rw [← htr.len]; exact (List.getElem?_eq_some_iff.1 hij).1
        have hv:=htr.val d _ _ hij (Array.getElem?_eq_getElem hlt)
        have hne:∃ y,E'.mu (.L d)=some y:=by
          generalize a'.tmps[d]=u at hv
          cases hv with
          | ptr _ _ hs0 hm=>exact ⟨_,hm⟩
        obtain ⟨y,hy⟩:=hne
        have:=(hS.pk d row hd).1
        rw [hy] at this
        cases this
    subst hpn
    obtain ⟨S2,E2,h2,hS2,ht2⟩:=postR_sound hS htr (postK_out hk).1
    exact hQ .nrm _ E2 _ _ h2 hS2 ht2
  have hA1:∀ d,p2 d≠none→d∈(allocs ops.toList).map (·.1):=by
    intro d hd
    cases Classical.em (d∈(allocs ops.toList).map (·.1)) with
    | inl h=>exact h
    | inr h=>exact (hd ((hout d h).trans rfl)).elim
  have hI1:Inv C.P p2 ops (Array.replicate ops.size false):=by
    intro i o e d h1 h2 h3 _
    exact hrow d e (allocs_mem h2 h3 (List.mem_of_getElem? (by rw [Array.getElem?_toList]; exact h1)))
  rcases h4 with h4 | h4
  · exact dPre_sound hD hC hns hap1 hg1 hQ1 ops.size _ p2 S2 E1 a _ hA1 hM2.drawn (by rw [ht2]; exact ht1) hI1 hcl h4
  · exact aAny_sound hC hap1 hg1 hQ1 ops.size _ p2 S2 E1 a _ hA1 hM2.drawn (by rw [ht2]; exact ht1) hI1 h4
theorem ctxN_sound {cfg:Cfg} (hX:XOK cfg) (hN:NoNum cfg.P) (hmix:cfg.P.follows .mixedOrders=true) (n:Nat):CallOK (ctxN cfg n)∧LoopOK (ctxN cfg n)∧DrawOK (ctxN cfg n) :=
  ctxN_ok hX.pure hX.sound hN (ctxN_apure hX) (fun n h=>draw_ok (by rw [ctxN_P]; exact hmix) (ctxN_det hX n) h) n
open Go.RowKit Go.WideShapes Go.ChangeShapes
section
variable {H:Type} {enc:TypeId×Value→H} {P:Program}
theorem post_of_below {f:Func} {s:ChangeSpec} {apart fresh handsOn again:Bool} {W W':World} {args:Array Value} {v:Value} {ds gs:List (DataW H)} {before pa pv:List MemPlace}
    (hW:DataW.Whole enc P f.params.toList s.vars apart W args.toList ds gs before)
    (hres:∀ (b:Nat) (sp:Nat→Bool) (hd:Bool),DataW.TrodAll enc P W' b sp hd f.resultTypes.toList (v.resultList f.resultTypes.size) (s.fn H (ds++gs)).results [])
    (hargs:∀ sp:Nat→Bool,(∀ p∈before,sp p.block=true)→DataW.TrodAll enc P W' 0 sp true f.params.toList args.toList (s.fn H (ds++gs)).args pa)
    (hvars:∀ sp:Nat→Bool,(∀ p∈before,sp p.block=true)→DataW.TrodVars enc P W' sp s.vars (s.fn H (ds++gs)).vars pv)
    (hps:before=pa++pv) (hb:Below W.heap.size W W')
    (hok:∀ (j:Nat) (t:TypeId) (r:Value),f.resultTypes[j]?=some t→(v.resultList f.resultTypes.size)[j]?=some r→Value.okWide P W' .any 0 t r) :
    s.post enc P f apart fresh handsOn again W args v W':=by
  have hlt:∀ p∈before,p.block<W.heap.size:=fun p hp=>hW.lt p hp
  have hold:∀ p∈before,(fun b=>decide (b<W.heap.size)) p.block=true:=fun p hp=>by simpa using hlt p hp
  refine ⟨ds,gs,before,[],pa,pv,hW,hres _ _ _,hargs _ hold,hvars _ hold,World.keptBut_mono (fun p hp=>⟨hp,?_⟩) (hb.frame (·∈before)),fun _=>?_⟩
  · rw [hps,List.mem_append] at hp
    exact Or.inr hp
  · obtain ⟨_,_,_,_,_,hz,hn⟩:=hW
    refine ⟨hok,_,_,([]++pa)++pv,⟨[]++pa,pv,trodAll_append (hargs _ (fun _ _=>rfl)) (hres _ _ _),hvars _ (fun _ _=>rfl),rfl,?_,?_⟩,?_⟩
    · intro b off hp
      have hin:MemPlace.cell b off∈before:=by rw [hps]; simpa using hp
      rw [hb.frozen (hlt _ hin)]
      exact hz b off hin
    · intro ha
      have:=hn ha
      rw [hps] at this
      simpa using this
    · intro p hp _
      rw [hps]
      simpa using hp
end
def Gives (cfg:Cfg) (n f:Nat) (args:List AV) (r:AV):Prop:=apure (ctxN cfg n) f args fun x=>x=r
theorem walk_true {cfg:Cfg} (hX:XOK cfg) (hN:NoNum cfg.P) (hmix:cfg.P.follows .mixedOrders=true) {n f:Nat} {args:List AV} (h:Gives cfg n f args (.v (.bool true))) (F:Nat→Prop) (w:World) (us:Array Value) (hF:∀ b,F b→b<w.heap.size) (hg:GTE ⟨F,fun _=>none,w.heap⟩) (hv:VRs ⟨F,fun _=>none,w.heap⟩ args us.toList) :
    Calls cfg.P f us w fun e w'=>e=.returned (.bool true)∧Below w.heap.size w w':=by
  obtain ⟨h1,h2,h3⟩:=ctxN_sound hX hN hmix n
  have hP:=ctxN_P cfg n
  obtain ⟨r,⟨_,h4⟩,hr⟩:=apure_sound h1 h2 h3 (by rw [hP]; exact hN) (ctxN_apure hX n) h
  rw [hP] at h4
  subst hr
  refine (h4 F w us hF hg hv).mono ?_
  rintro e w' ⟨v,F',rfl,hv,hb,_⟩
  exact ⟨by rw [hv.vI.1],hb⟩
theorem noNum_of {P : Program} (h : (P.funcs.all fun fn => !(fn.name == "runtime.NumGoroutine")) = true) : NoNum P := by
  intro f fn hf
  have hlt:f<P.funcs.size:=(Array.getElem?_eq_some_iff.1 hf).1
  have:=Array.all_eq_true.1 h f hlt
  rw [Array.getElem?_eq_getElem hlt] at hf
  cases hf
  simpa using this
def LoopD (P:Program) (_pl:Pol) (c:Code) (S:St) (K:Ex→St→Prop):Prop :=
  ∃ n e S',(∀ (r:Option Nat) (G:Gh) (E:Env) (a:Act) (w:World) (Q:Exit→Act→World→Prop),SimM G pn E S w→TR G E S.t a→QOK G (fun e' S''=>e'=e∧S''=S') Q→Code.roundsIn (rd r) 0 P c Q n a w)∧K e S'
def SD (P:Program) (f:Nat) (args:List AV) (o:List Ob) (K:AV→List Ob→Prop):Prop :=
  ∃ r o',SCall P f args o (fun r' o''=>r'=r∧o''=o')∧K r o'
def ctxS (cfg:Cfg):Ctx:={ P:=cfg.P,pure:=cfg.pure,pol:=cfg.pol,pcall:=PCall cfg.P,scall:=SD cfg.P,loop:=LoopD cfg.P }
theorem SCall.mono {P:Program} {f:Nat} {args:List AV} {o:List Ob} {K K':AV→List Ob→Prop} (h:SCall P f args o K) (hk:∀ r o',K r o'→K' r o'):SCall P f args o K' :=
  ⟨h.1,fun E w us hM hg hv=>(h.2 E w us hM hg hv).mono fun _ _ ⟨v,r,o',E',h1,h2,h3,h4⟩=>⟨v,r,o',E',hk _ _ h1,h2,h3,h4⟩⟩
theorem SD.out {P:Program} {f:Nat} {args:List AV} {o:List Ob} {K:AV→List Ob→Prop} (h:SD P f args o K):SCall P f args o K:=by
  obtain ⟨r,o',h1,h2⟩:=h
  exact h1.mono fun _ _ ⟨e1,e2⟩=>by rw [e1,e2]; exact h2
theorem ctxS_call (cfg:Cfg):CallOK (ctxS cfg):=⟨fun _ _ _ h=>h,fun _ _ _ _ h=>h.out,fun _ _ _ _ h=>h.elim⟩
theorem ctxS_det (cfg:Cfg):CDet (ctxS cfg) :=
  ⟨fun _ _ _ ⟨r,h1,h2⟩=>⟨r,h2,fun _ h=>⟨r,h1,h⟩⟩,fun _ _ _ _ ⟨r,o',h1,h2⟩=>⟨r,o',h2,fun _ h=>⟨r,o',h1,h⟩⟩,fun _ _ _ _ ⟨n,e,S',h1,h2⟩=>⟨e,S',h2,fun _ h=>⟨n,e,S',h1,h⟩⟩,fun _ _ _=>Det2.failN (n:=0)⟩
theorem ctxS_loop (cfg:Cfg):LoopOK (ctxS cfg):=by
  rintro pl c S K ⟨n,e,S',h1,h2⟩ r _ G E a w Q hM ht hQ
  exact wpIn_loop_rounds n (h1 r G E a w Q hM ht fun e' S'' E' a' w' ⟨e1,e2⟩ hS htr=>by subst e1 e2; exact hQ _ _ _ _ _ h2 hS htr)
theorem ctxS_draw {cfg:Cfg} (hmix:cfg.P.follows .mixedOrders=true):DrawOK (ctxS cfg):=draw_ok hmix (ctxS_det cfg) (ctxS_call cfg)
theorem LoopD.step {cfg:Cfg} (hmix:cfg.P.follows .mixedOrders=true) {pl:Pol} {c:Code} {S:St} {K:Ex→St→Prop}
    (h:acode (ctxS cfg) pl c S fun e S'=>match e with
      | .nrm=>LoopD cfg.P pl c S' K
      | .ex i=>K (.ex i) S'
      | .ret=>K .ret S'):LoopD cfg.P pl c S K:=by
  obtain ⟨e1,S1,h1,h2⟩:=acode_det (ctxS_det cfg) c _ h
  have run:∀ (e:Ex) (S2:St) (n:Nat),(∀ (r:Option Nat) (G:Gh) (E:Env) (a:Act) (w:World) (Q:Exit→Act→World→Prop),SimM G pn E S1 w→TR G E S1.t a→QOK G (fun e' S''=>e'=e∧S''=S2) Q→Exit.then (Code.roundsIn (rd r) 0 cfg.P c Q n) Q (exOf e1) a w) →
      ∀ (r:Option Nat) (G:Gh) (E:Env) (a:Act) (w:World) (Q:Exit→Act→World→Prop),SimM G pn E S w→TR G E S.t a→QOK G (fun e' S''=>e'=e∧S''=S2) Q→Code.roundsIn (rd r) 0 cfg.P c Q (n + 1) a w:=by
    intro e S2 n hn r G E a w Q hM ht hQ
    refine acode_sound (ctxS_call cfg) (ctxS_loop cfg) (ctxS_draw hmix) c (h2 (fun e' S'=>e'=e1∧S'=S1) ⟨rfl,rfl⟩) r (fun h=>by cases h) G E a w _ hM ht (fun e' S' E' a' w' hk hS htr=>?_)
    obtain ⟨rfl,rfl⟩:=hk
    exact hn r G E' a' w' Q hS htr hQ
  cases e1 with
  | nrm =>
    obtain ⟨n,e,S',hl,hk⟩:=h1
    exact ⟨n + 1,e,S',run e S' n (fun r G E a w Q hM ht hQ=>hl r G E a w Q hM ht hQ),hk⟩
  | ex i=>exact ⟨1,.ex i,S1,run _ _ 0 (fun r G E a w Q hM ht hQ=>hQ _ _ _ _ _ ⟨rfl,rfl⟩ hM ht),h1⟩
  | ret=>exact ⟨1,.ret,S1,run _ _ 0 (fun r G E a w Q hM ht hQ=>hQ _ _ _ _ _ ⟨rfl,rfl⟩ hM ht),h1⟩
theorem PCall.mono {P:Program} {f:Nat} {args:List AV} {K K':AV→Prop} (h:PCall P f args K) (hk:∀ r,K r→K' r):PCall P f args K' :=
  let ⟨r,h1,h2⟩:=h
  ⟨r,h1,hk _ h2⟩
theorem LoopD.mono {P:Program} {pl:Pol} {c:Code} {S:St} {K K':Ex→St→Prop} (h:LoopD P pl c S K) (hk:∀ e S',K e S'→K' e S'):LoopD P pl c S K' :=
  let ⟨n,e,S',h1,h2⟩:=h
  ⟨n,e,S',h1,hk _ _ h2⟩
theorem SD.mono {P:Program} {f:Nat} {args:List AV} {o:List Ob} {K K':AV→List Ob→Prop} (h:SD P f args o K) (hk:∀ r o',K r o'→K' r o'):SD P f args o K' :=
  let ⟨r,o',h1,h2⟩:=h
  ⟨r,o',h1,hk _ _ h2⟩
theorem PCall.of {cfg:Cfg} (hN:NoNum cfg.P) (hmix:cfg.P.follows .mixedOrders=true) {f:Nat} {args:List AV} {K:AV→Prop} (h:apure (ctxS cfg) f args K):PCall cfg.P f args K :=
  apure_sound (ctxS_call cfg) (ctxS_loop cfg) (ctxS_draw hmix) hN (fun f args K h=>by
    obtain ⟨r,h1,h2⟩:=apure_det (ctxS_det cfg) K h
    exact ⟨r,h1,h2 _ rfl⟩) h
theorem SD.of {cfg:Cfg} (hN:NoNum cfg.P) (hmix:cfg.P.follows .mixedOrders=true) {f:Nat} {args:List AV} {o:List Ob} {K:AV→List Ob→Prop} (h:astore (ctxS cfg) f args o K):SD cfg.P f args o K:=by
  obtain ⟨r,o',h1,h2⟩:=astore_det (ctxS_det cfg) K h
  exact ⟨r,o',astore_sound (ctxS_call cfg) (ctxS_loop cfg) (ctxS_draw hmix) hN (h2 _ ⟨rfl,rfl⟩),h1⟩
theorem PCall.ofN {cfg:Cfg} (hX:XOK cfg) (hN:NoNum cfg.P) (hmix:cfg.P.follows .mixedOrders=true) {n f:Nat} {args:List AV} {r:AV} (h:Gives cfg n f args r):PCall cfg.P f args fun x=>x=r:=by
  obtain ⟨h1,h2,h3⟩:=ctxN_sound hX hN hmix n
  have hP:=ctxN_P cfg n
  have:=apure_sound h1 h2 h3 (by rw [hP]; exact hN) (ctxN_apure hX n) h
  rw [hP] at this
  exact this
theorem PCall.use {P:Program} {f:Nat} {args:List AV} {r:AV} {K:AV→Prop} (h:PCall P f args fun x=>x=r) (hk:K r):PCall P f args K:=h.mono fun _ e=>by rw [e]; exact hk
theorem calls_true {P:Program} {f:Nat} {args:List AV} (h:PCall P f args fun x=>x=.v (.bool true)) (F:Nat→Prop) (w:World) (us:Array Value) (hF:∀ b,F b→b<w.heap.size) (hg:GTE ⟨F,fun _=>none,w.heap⟩) (hv:VRs ⟨F,fun _=>none,w.heap⟩ args us.toList) :
    Calls P f us w fun e w'=>e=.returned (.bool true)∧Go.RowKit.Below w.heap.size w w':=by
  obtain ⟨r,⟨_,h4⟩,rfl⟩:=h
  refine (h4 F w us hF hg hv).mono ?_
  rintro e w' ⟨v,F',rfl,hv,hb,_⟩
  exact ⟨by rw [hv.vI.1],hb⟩
open Go.ChangeShapes Go.WideShapes
def contig (P:Program):List Field→Nat→Bool
  | [],_=>true
  | f::fs,k=>Nat.beq f.offset k&&contig P fs (k + P.cellsOf f.type)
def goodT (P:Program):Nat→TypeId→Bool
  | 0,_=>false
  | n + 1,t =>
    match P.underlying t with
    | some .bool | some (.int _) | some .string=>true
    | some (.slice e)=>Nat.blt 0 (P.cellsOf e)&&goodT P n e
    | some (.struct fs)=>contig P fs.toList 0&&Nat.beq (fs.toList.foldl (fun s f=>s + P.cellsOf f.type) 0) (P.cellsOf t)&&fs.toList.all fun f=>goodT P n f.type
    | _=>false
def shapeD {H:Type} (P:Program):Nat→TypeId→DataW H→Bool
  | 0,_,_=>false
  | n + 1,t,d =>
    match P.underlying t,d with
    | some .bool,.lit (.bool _)=>true
    | some (.int k),.lit (.int k' m)=>decide (k'=k)&&(Lit.int k m).wf
    | some .string,.lit (.string bs)=>decide (bs.length≤maxLen)
    | some (.slice _),.nil=>true
    | some (.slice e),.slice xs _=>decide (xs.length≤maxLen)&&xs.all (shapeD P n e)
    | some (.struct fs),.agg ds=>Nat.beq ds.length fs.size&&(fs.toList.zip ds).all fun x=>shapeD P n x.1.type x.2
    | _,_=>false
def encD {H:Type} (P:Program):Nat→TypeId→DataW H→List AV
  | 0,_,_=>[]
  | n + 1,t,d =>
    match P.underlying t,d with
    | some .bool,.lit (.bool b)=>[.v (.bool b)]
    | some (.int k),.lit (.int _ m)=>[.v (.int k m)]
    | some .string,.lit (.string bs)=>[.v (.string ⟨bs.toArray⟩)]
    | some (.slice _),.nil=>[.nilsl]
    | some (.slice e),.slice xs _=>[.sl (xs.map (encD P n e))]
    | some (.struct fs),.agg ds=>(fs.toList.zip ds).flatMap fun x=>encD P n x.1.type x.2
    | _,_=>[]
def allF (w:World):Env:=⟨fun b=>b<w.heap.size,fun _=>none,w.heap⟩
theorem mapM_get {α β:Type} {f:α→Option β}:∀ {xs:List α} {ys:List β},xs.mapM f=some ys→xs.length=ys.length∧∀ (i:Nat) (x:α),xs[i]?=some x→∃ y,ys[i]?=some y∧f x=some y
  | [],ys,h=>by
    simp at h
    subst h
    exact ⟨rfl,fun i x h=>by simp at h⟩
  | x::xs,ys,h=>by
    rw [List.mapM_cons] at h
    simp only [Option.pure_def,Option.bind_eq_bind,Option.bind_eq_some_iff,Option.some.injEq] at h
    obtain ⟨y,hy,ys',hys,rfl⟩:=h
    obtain ⟨h1,h2⟩:=mapM_get hys
    refine ⟨by simp [h1],fun i z hz=>?_⟩
    cases i with
    | zero =>
      simp only [List.getElem?_cons_zero,Option.some.injEq] at hz
      subst hz
      exact ⟨y,rfl,hy⟩
    | succ i=>exact h2 i z (by simpa using hz)
theorem cell_plain {w:World} {a:Addr} {v:Value} (h:w.cell? a=some v):a.spot=none∧a.block<w.heap.size∧cellH w.heap a.block a.off=some v:=by
  unfold World.cell? at h
  split at h
  · rename_i c t fr hb
    split at h
    · cases h
    · rename_i hs
      refine ⟨by simpa using hs,(Array.getElem?_eq_some_iff.1 hb).1,?_⟩
      unfold cellH
      rw [hb]
      exact h
  · cases h
theorem fold_add (P:Program):∀ (fs:List Field) (k:Nat),fs.foldl (fun s f=>s + P.cellsOf f.type) k=k + fs.foldl (fun s f=>s + P.cellsOf f.type) 0
  | [],k=>by simp
  | f::fs,k=>by
    rw [List.foldl_cons,List.foldl_cons,fold_add P fs (k + _),fold_add P fs (0 + _)]
    omega
theorem flatten_at {α:Type} {sz:Nat}:∀ {rows:List (List α)} {m:Nat} {c:α},0<sz→(∀ r∈rows,r.length=sz)→rows.flatten[m]?=some c→∃ r,rows[m / sz]?=some r∧r[m % sz]?=some c
  | [],m,c,_,_,h=>by simp at h
  | r::rs,m,c,hs,hr,h=>by
    have h0:=hr r List.mem_cons_self
    rw [List.flatten_cons] at h
    by_cases hm:m<sz
    · rw [List.getElem?_append_left (by omega)] at h
      refine ⟨r,?_,?_⟩
      · rw [Nat.div_eq_of_lt hm]; rfl
      · rw [Nat.mod_eq_of_lt hm]; exact h
    · rw [List.getElem?_append_right (by omega),h0] at h
      obtain ⟨r',h1,h2⟩:=flatten_at (rows:=rs) hs (fun r h=>hr r (List.mem_cons_of_mem _ h)) h
      have e1:m / sz=(m - sz) / sz + 1:=by
        rw [← Nat.add_div_right _ hs]
        congr 1
        omega
      have e2:m % sz=(m - sz) % sz:=by
        rw [Nat.mod_eq_sub_mod (by omega)]
      rw [e1,e2,List.getElem?_cons_succ]
      exact ⟨r',h1,h2⟩
section
variable {H:Type} {enc:TypeId×Value→H} {P:Program} {w:World} {sp:Nat→Bool}
def Reads (P:Program) (w:World) (n:Nat) (t:TypeId) (d:DataW H) (cs:List Value):Prop:=shapeD P n t d=true∧VRs (allF w) (encD P n t d) cs∧cs.length=P.cellsOf t
theorem allF_fz:(allF w).fz=allF w:=rfl
theorem fields_VR {n:Nat} {base:Nat} {fuel:Nat} (ih:∀ {fuel:Nat} {t:TypeId} {cs:List Value} {d:DataW H} {ps:List MemPlace},goodT P n t=true→cs.length=P.cellsOf t→DataW.trod enc P w base sp true fuel t cs=some (d,ps)→shapeD P n t d=true∧VRs (allF w) (encD P n t d) cs) :
    ∀ (fs:List Field) (k:Nat) (cs:List Value) (xs:List (DataW H×List MemPlace)),contig P fs k=true→k + fs.foldl (fun s f=>s + P.cellsOf f.type) 0=cs.length→(fs.all fun f=>goodT P n f.type)=true →
      fs.mapM (fun f=>DataW.trod enc P w base sp true fuel f.type ((cs.drop f.offset).take (P.cellsOf f.type)))=some xs →
      ((fs.zip (xs.map (·.1))).all fun x=>shapeD P n x.1.type x.2)=true∧VRs (allF w) ((fs.zip (xs.map (·.1))).flatMap fun x=>encD P n x.1.type x.2) (cs.drop k)
  | [],k,cs,xs,_,hl,_,h=>by
    simp at h
    subst h
    simp at hl
    refine ⟨rfl,?_⟩
    rw [List.drop_eq_nil_of_le (by omega)]
    exact .nil _
  | f::fs,k,cs,xs,hc,hl,hg,h=>by
    rw [List.mapM_cons] at h
    simp only [Option.pure_def,Option.bind_eq_bind,Option.bind_eq_some_iff,Option.some.injEq] at h
    obtain ⟨y,hy,ys,hys,rfl⟩:=h
    unfold contig at hc
    simp only [Bool.and_eq_true] at hc
    have hoff:=Nat.eq_of_beq_eq_true hc.1
    simp only [List.all_cons,Bool.and_eq_true] at hg
    rw [List.foldl_cons,fold_add] at hl
    rw [hoff] at hy
    have hlen:((cs.drop k).take (P.cellsOf f.type)).length=P.cellsOf f.type:=by simp; omega
    obtain ⟨h1,h2⟩:=ih (ps:=y.2) hg.1 hlen hy
    obtain ⟨h3,h4⟩:=fields_VR ih fs (k + P.cellsOf f.type) cs ys hc.2 (by omega) hg.2 hys
    refine ⟨by simp [h1,h3],?_⟩
    show VRs _ (encD P n f.type y.1++_) _
    have:=h2.append h4
    rw [← List.drop_drop,List.take_append_drop] at this
    exact this
theorem trod_VR {base:Nat}:∀ (n:Nat) {fuel:Nat} {t:TypeId} {cs:List Value} {d:DataW H} {ps:List MemPlace},goodT P n t=true→cs.length=P.cellsOf t→DataW.trod enc P w base sp true fuel t cs=some (d,ps)→shapeD P n t d=true∧VRs (allF w) (encD P n t d) cs
  | 0,_,_,_,_,_,h,_,_=>by cases h
  | n + 1,0,_,_,_,_,_,_,h=>by simp [DataW.trod] at h
  | n + 1,fuel + 1,t,cs,d,ps,hg,hlen,h=>by
    have one:∀ {c:AV} {u:Value},VR (allF w) c u→VRs (allF w) [c] [u]:=fun h=>.cons h (.nil _)
    unfold goodT at hg
    unfold DataW.trod at h
    split at hg
    · rename_i hu
      rw [hu] at h
      split at h <;> first | (simp_all; done) | skip
      rename_i b _ _
      simp only [Option.some.injEq,Prod.mk.injEq] at h
      obtain ⟨rfl,_⟩:=h
      refine ⟨by unfold shapeD; rw [hu],?_⟩
      unfold encD
      rw [hu]
      exact one (.v _ _ rfl)
    · rename_i k hu
      rw [hu] at h
      split at h <;> first | (simp_all; done) | skip
      rename_i k' kk m e2
      cases e2
      split at h
      · rename_i hk
        simp only [Option.some.injEq,Prod.mk.injEq] at h
        obtain ⟨rfl,_⟩:=h
        obtain ⟨hkk,hwf⟩:=hk
        subst hkk
        refine ⟨by unfold shapeD; rw [hu]; simp [hwf],?_⟩
        unfold encD
        rw [hu]
        exact one (.v _ _ rfl)
      · cases h
    · rename_i hu
      rw [hu] at h
      split at h <;> first | (simp_all; done) | skip
      rename_i s e2
      split at h
      · rename_i hs
        simp only [Option.some.injEq,Prod.mk.injEq] at h
        obtain ⟨rfl,_⟩:=h
        refine ⟨by unfold shapeD; rw [hu]; simpa using hs,?_⟩
        unfold encD
        rw [hu]
        have:(⟨s.data.toList.toArray⟩:ByteArray)=s:=by cases s; simp
        dsimp only
        rw [this]
        exact one (.v _ _ rfl)
      · cases h
    · rename_i e hu
      simp only [Bool.and_eq_true] at hg
      have hsz:0<P.cellsOf e:=Nat.le_of_ble_eq_true hg.1
      rw [hu] at h
      split at h <;> first | (simp_all; done) | skip
      · simp only [Option.some.injEq,Prod.mk.injEq] at h
        obtain ⟨rfl,_⟩:=h
        refine ⟨by unfold shapeD; rw [hu],?_⟩
        unfold encD
        rw [hu]
        exact one (.nilsl _)
      · rename_i e0 a len cap e2
        cases e2
        dsimp only at h
        split at h
        · rename_i hb
          simp only [Option.bind_eq_some_iff,Option.map_eq_some_iff,Prod.mk.injEq] at h
          obtain ⟨elems,he,rest,_,rfl,_⟩:=h
          obtain ⟨hl1,hget⟩:=mapM_get he
          simp only [List.length_range] at hl1
          have hel:∀ (i:Nat) (y:DataW H×List MemPlace),elems[i]?=some y→∃ cs',(w.cells? base (a.add (i * P.cellsOf e)) (P.cellsOf e))=some cs'∧shapeD P n e y.1=true∧VRs (allF w) (encD P n e y.1) cs':=by
            intro i y hy
            have hi:i<len:=by rw [hl1]; exact (List.getElem?_eq_some_iff.1 hy).1
            obtain ⟨y',hy',hf⟩:=hget i i (by simp [hi])
            rw [hy] at hy'
            cases hy'
            simp only [Option.bind_eq_some_iff] at hf
            obtain ⟨cs',hc,ht⟩:=hf
            have hcl:=(World.cells?_some hc).2.1
            obtain ⟨h1,h2⟩:=trod_VR n (ps:=y.2) hg.2 hcl ht
            exact ⟨cs',hc,h1,h2⟩
          refine ⟨?_,?_⟩
          · unfold shapeD
            rw [hu]
            simp only [Bool.and_eq_true,decide_eq_true_eq,List.length_map,List.all_eq_true,List.mem_map]
            refine ⟨by omega,?_⟩
            rintro x ⟨y,hy,rfl⟩
            obtain ⟨i,hi,hiy⟩:=List.getElem_of_mem hy
            obtain ⟨cs',_,h1,_⟩:=hel i y (by rw [List.getElem?_eq_getElem hi,hiy])
            exact h1
          · unfold encD
            rw [hu]
            refine one ?_
            cases hlen0:len with
            | zero =>
              have:elems=[]:=List.eq_nil_of_length_eq_zero (by omega)
              rw [this]
              exact .sle _ a cap
            | succ len' =>
              have hrow:∀ (i:Nat) (y:DataW H×List MemPlace),elems[i]?=some y→∃ cs',cs'.length=P.cellsOf e∧VRs (allF w) (encD P n e y.1) cs'∧∀ j,j<P.cellsOf e→w.cell? ((a.add (i * P.cellsOf e)).add j)=cs'[j]?:=by
                intro i y hy
                obtain ⟨cs',hc,_,h2⟩:=hel i y hy
                obtain ⟨_,h3,h4⟩:=World.cells?_some hc
                exact ⟨cs',h3,h2,h4⟩
              obtain ⟨y0,hy0⟩:∃ y0,elems[0]?=some y0:=⟨elems[0]'(by omega),List.getElem?_eq_getElem (by omega)⟩
              obtain ⟨c0,hc0,_,hat0⟩:=hrow 0 y0 hy0
              have h00:=hat0 0 hsz
              simp only [Nat.zero_mul,Addr.add,if_pos] at h00
              have hv0:c0[0]?=some (c0[0]'(by omega)):=List.getElem?_eq_getElem (by omega)
              rw [hv0] at h00
              obtain ⟨hspot,hblk,_⟩:=cell_plain h00
              obtain ⟨b,off,spot⟩:=a
              simp only at hspot hblk
              subst hspot
              have hadd:∀ x,(⟨b,off,none⟩:Addr).add x=⟨b,off + x,none⟩:=fun x=>by unfold Addr.add; split <;> simp_all
              have hrl:∀ r∈(elems.map (·.1)).map (encD P n e),r.length=P.cellsOf e:=by
                intro r hr
                simp only [List.map_map,List.mem_map] at hr
                obtain ⟨y,hy,rfl⟩:=hr
                obtain ⟨i,hi,hiy⟩:=List.getElem_of_mem hy
                obtain ⟨cs',h1,h2,_⟩:=hrow i y (by rw [List.getElem?_eq_getElem hi,hiy])
                exact h2.1.trans h1
              have hfl:((elems.map (·.1)).map (encD P n e)).flatten.length=len * P.cellsOf e:=by
                have:∀ (rows:List (List AV)),(∀ r∈rows,r.length=P.cellsOf e)→rows.flatten.length=rows.length * P.cellsOf e:=by
                  intro rows
                  induction rows with
                  | nil=>intro _; simp
                  | cons r rs ih=>intro hr; rw [List.flatten_cons,List.length_append,ih (fun r h=>hr r (List.mem_cons_of_mem _ h)),hr r List.mem_cons_self,List.length_cons,Nat.succ_mul]; omega
                rw [this _ hrl]
                simp [hl1]
              have hcell:∀ m,m<len * P.cellsOf e→∃ u,cellH w.heap b (off + m)=some u:=by
                intro m hm
                have hi:m / P.cellsOf e<len:=(Nat.div_lt_iff_lt_mul hsz).2 hm
                have hj:m % P.cellsOf e<P.cellsOf e:=Nat.mod_lt _ hsz
                obtain ⟨y,hy⟩:∃ y,elems[m / P.cellsOf e]?=some y:=⟨elems[m / P.cellsOf e]'(by omega),List.getElem?_eq_getElem (by omega)⟩
                obtain ⟨cs',h1,h2,h3⟩:=hrow _ y hy
                have h4:=h3 _ hj
                have hv:cs'[m % P.cellsOf e]?=some (cs'[m % P.cellsOf e]'(by omega)):=List.getElem?_eq_getElem (by omega)
                rw [hv,hadd] at h4
                have hadd2:∀ x y,(⟨b,x,none⟩:Addr).add y=⟨b,x + y,none⟩:=fun x y=>by unfold Addr.add; split <;> simp_all
                rw [hadd2] at h4
                obtain ⟨_,_,h5⟩:=cell_plain h4
                have ee:off + m / P.cellsOf e * P.cellsOf e + m % P.cellsOf e=off + m:=by
                  have:=Nat.div_add_mod m (P.cellsOf e)
                  rw [Nat.mul_comm] at this
                  omega
                simp only [ee] at h5
                exact ⟨_,h5⟩
              have hus:=VR.sl (E:=allF w) (rows:=(elems.map (·.1)).map (encD P n e)) (sz:=P.cellsOf e) (b:=b) (o:=off) (cap:=cap)
                ((List.range (len * P.cellsOf e)).map fun m=>(cellH w.heap b (off + m)).getD undef) hsz hrl (by rw [hfl]; simp) (fun m c u h1 h2=>?_) hblk (fun m u hu'=>?_) (by simp; omega)
              · have e1:((elems.map (·.1)).map (encD P n e)).length=len' + 1:=by simp; omega
                rw [e1] at hus
                exact hus
              · rw [allF_fz]
                obtain ⟨r,h3,h4⟩:=flatten_at hsz hrl h1
                rw [List.getElem?_map,List.getElem?_map,Option.map_eq_some_iff] at h3
                obtain ⟨x,h3,rfl⟩:=h3
                rw [Option.map_eq_some_iff] at h3
                obtain ⟨y,hy,rfl⟩:=h3
                obtain ⟨cs',h5,h6,h7⟩:=hrow _ y hy
                obtain ⟨u',hu1,hu2⟩:=h6.get h4
                have hj:m % P.cellsOf e<P.cellsOf e:=Nat.mod_lt _ hsz
                have h8:=h7 _ hj
                have hadd2:∀ x y,(⟨b,x,none⟩:Addr).add y=⟨b,x + y,none⟩:=fun x y=>by unfold Addr.add; split <;> simp_all
                rw [hu1,hadd,hadd2] at h8
                obtain ⟨_,_,h9⟩:=cell_plain h8
                have ee:off + m / P.cellsOf e * P.cellsOf e + m % P.cellsOf e=off + m:=by
                  have:=Nat.div_add_mod m (P.cellsOf e)
                  rw [Nat.mul_comm] at this
                  omega
                simp only [ee] at h9
                have hm:m<len * P.cellsOf e:=by rw [← hfl]; exact (List.getElem?_eq_some_iff.1 h1).1
                rw [List.getElem?_map,List.getElem?_range hm] at h2
                simp only [Option.map_some,h9,Option.getD_some,Option.some.injEq] at h2
                subst h2
                exact hu2
              · have hm:m<len * P.cellsOf e:=by
                  have:=(List.getElem?_eq_some_iff.1 hu').1
                  simpa using this
                rw [List.getElem?_map,List.getElem?_range hm] at hu'
                obtain ⟨u',h5⟩:=hcell m hm
                simp only [Option.map_some,h5,Option.getD_some,Option.some.injEq] at hu'
                subst hu'
                exact h5
        · cases h
    · rename_i fs hu
      simp only [Bool.and_eq_true] at hg
      rw [hu] at h
      split at h <;> first | (simp_all; done) | skip
      rename_i fs0 e1
      cases e1
      rw [if_pos hlen] at h
      simp only [Option.map_eq_some_iff,Prod.mk.injEq] at h
      obtain ⟨xs,hx,rfl,_⟩:=h
      have hsum:=Nat.eq_of_beq_eq_true hg.1.2
      obtain ⟨h1,h2⟩:=fields_VR (n:=n) (base:=base) (fuel:=fuel) (fun hg hl ht=>trod_VR n hg hl ht) fs.toList 0 _ xs hg.1.1 (by omega) hg.2 hx
      obtain ⟨hl1,_⟩:=mapM_get hx
      refine ⟨?_,?_⟩
      · unfold shapeD
        rw [hu]
        simp only [Bool.and_eq_true]
        exact ⟨by simp at hl1; simp [hl1],h1⟩
      · unfold encD
        rw [hu]
        simpa using h2
    · cases hg
end
def argAV {H:Type} (P:Program) (n:Nat) (t:TypeId) (d:DataW H):AV :=
  match P.underlying t with
  | some (.struct _)=>.agg (encD P n t d)
  | _=>(encD P n t d).headD .bad
def isStruct (P:Program) (t:TypeId):Bool :=
  match P.underlying t with
  | some (.struct _)=>true
  | _=>false
def goodA (P:Program) (n:Nat) (t:TypeId):Bool:=goodT P n t&&(isStruct P t||Nat.beq (P.cellsOf t) 1)
section
variable {H:Type} {enc:TypeId×Value→H} {P:Program} {W W':World}
theorem arg_VR {n:Nat} {t:TypeId} {v:Value} {d:DataW H} {p:List MemPlace} {base:Nat} (hg:goodA P n t=true) (hv:Value.okWide P W .any base t v) (h:DataW.Trod enc P W 0 (fun _=>true) true t v d p) :
    shapeD P n t d=true∧VR (allF W) (argAV P n t d) v:=by
  unfold goodA at hg
  simp only [Bool.and_eq_true,Bool.or_eq_true] at hg
  obtain ⟨fuel,hf⟩:=h
  cases hs:isStruct P t with
  | true =>
    unfold isStruct at hs
    split at hs
    · rename_i fs hu
      unfold Value.okWide at hv
      rw [hu] at hv
      obtain ⟨cs,rfl,hsz,_⟩:=hv
      have hc:(Value.agg cs).cells.toList=cs.toList:=rfl
      rw [hc] at hf
      obtain ⟨h1,h2⟩:=trod_VR (base:=0) n (ps:=p) hg.1 (by simpa using hsz) hf
      refine ⟨h1,?_⟩
      unfold argAV
      rw [hu]
      exact h2.aggV
    · cases hs
  | false =>
    have hc1:P.cellsOf t=1:=by
      rcases hg.2 with h | h
      · rw [hs] at h; cases h
      · exact Nat.eq_of_beq_eq_true h
    have hone:v.cells.toList=[v]:=by
      have hns:∀ fs,P.underlying t≠some (.struct fs):=fun fs he=>by unfold isStruct at hs; rw [he] at hs; cases hs
      have hgt:=hg.1
      cases v with
      | agg cs =>
        exfalso
        cases n with
        | zero=>cases hgt
        | succ n =>
          unfold goodT at hgt
          unfold Value.okWide at hv
          split at hgt
          · rename_i hu; rw [hu] at hv; simp [Cell.okWide,Cell.ok,hu] at hv
          · rename_i k hu; rw [hu] at hv; simp [Cell.okWide,Cell.ok,hu] at hv
          · rename_i hu; rw [hu] at hv; simp [Cell.okWide,Cell.ok,hu] at hv
          · rename_i e hu; rw [hu] at hv; simp [Cell.okWide,Cell.ok,hu] at hv
          · rename_i fs hu; exact hns fs hu
          · cases hgt
      | _=>rfl
    rw [hone] at hf
    obtain ⟨h1,h2⟩:=trod_VR (base:=0) n (ps:=p) hg.1 (by rw [hc1]; rfl) hf
    refine ⟨h1,?_⟩
    have hav:argAV P n t d=(encD P n t d).headD .bad:=by
      unfold argAV
      unfold isStruct at hs
      split at hs
      · cases hs
      · rfl
    rw [hav]
    cases he:encD P n t d with
    | nil=>exact .bad _ _
    | cons c cs =>
      rw [he] at h2
      exact h2.2 0 c v rfl rfl
theorem args_VR {n base:Nat}:∀ {ts:List TypeId} {vs:List Value} {ds:List (DataW H)} {p:List MemPlace},(ts.all (goodA P n))=true→(∀ (j:Nat) (t:TypeId) (v:Value),ts[j]?=some t→vs[j]?=some v→Value.okWide P W .any base t v) →
    DataW.TrodAll enc P W 0 (fun _=>true) true ts vs ds p→ds.length=ts.length∧((ts.zip ds).all fun x=>shapeD P n x.1 x.2)=true∧VRs (allF W) ((ts.zip ds).map fun x=>argAV P n x.1 x.2) vs
  | [],[],[],_,_,_,_=>⟨rfl,rfl,.nil _⟩
  | t::ts,v::vs,d::ds,_,hg,hv,h=>by
    obtain ⟨p,q,h1,h2,_⟩:=h
    simp only [List.all_cons,Bool.and_eq_true] at hg
    obtain ⟨h3,h4⟩:=arg_VR hg.1 (hv 0 t v rfl rfl) h1
    obtain ⟨h5,h6,h7⟩:=args_VR hg.2 (fun j t v e1 e2=>hv (j + 1) t v (by simpa using e1) (by simpa using e2)) h2
    exact ⟨by simp [h5],by simp [h3,h6],.cons h4 h7⟩
  | [],[],_::_,_,_,_,h=>by cases h
  | [],_::_,_,_,_,_,h=>by cases h
  | _::_,[],_,_,_,_,h=>by cases h
  | _::_,_::_,[],_,_,_,h=>by cases h
theorem args_back {sp:Nat→Bool} (hl:laidOutB P=true):∀ {ts:List TypeId} {vs:List Value} {ds:List (DataW H)} {p:List MemPlace},(ts.all fun t=>P.readableRec t&&decide (t<P.types.size))=true →
    DataW.TrodAll enc P W 0 (fun _=>true) true ts vs ds p→Below W.heap.size W W'→(∀ x∈p,x.block<W.heap.size)→(∀ x∈p,sp x.block=true)→DataW.TrodAll enc P W' 0 sp true ts vs ds p
  | [],[],[],_,_,h,_,_,_=>h
  | t::ts,v::vs,d::ds,_,hg,h,hb,hlt,hsp=>by
    obtain ⟨p,q,h1,h2,rfl⟩:=h
    simp only [List.all_cons,Bool.and_eq_true,decide_eq_true_eq] at hg
    refine ⟨p,q,Go.WideElems.Trod_stays hl hg.1.1 hg.1.2 h1 (fun x hx=>hb.same (hlt x (List.mem_append.2 (.inl hx)))) (fun x hx=>hsp x (List.mem_append.2 (.inl hx))),?_,rfl⟩
    exact args_back hl hg.2 h2 hb (fun x hx=>hlt x (List.mem_append.2 (.inr hx))) (fun x hx=>hsp x (List.mem_append.2 (.inr hx)))
  | [],[],_::_,_,_,h,_,_,_=>by cases h
  | [],_::_,_,_,_,h,_,_,_=>by cases h
  | _::_,[],_,_,_,h,_,_,_=>by cases h
  | _::_,_::_,[],_,_,h,_,_,_=>by cases h
end
end A
end Go.Proofs.Ytaekcekecdocnaa
