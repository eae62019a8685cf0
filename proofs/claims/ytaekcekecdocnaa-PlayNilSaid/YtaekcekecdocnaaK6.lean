/- Orders that are open; contracts; arguments read as data. Nothing is claimed here of the program. -/
import Derived.Test.YtaekcekecdocnaaK5
import Derived.Still
import Derived.WalkKit
import Derived.ProofKit
import Derived.OpenShut
import Derived.LoopNIn
import Derived.DataReads
import Derived.Carry
import Derived.WideKeyArgs
namespace Go.Proofs.Ytaekcekecdocnaa
namespace A
open Go
open Go.RowKit (Below)
theorem least {p:Nat→Prop}:∀ (n:Nat),p n→∃ m,p m∧∀ k,p k→m≤k:=by
  intro n
  induction n using Nat.strongRecOn with
  | _ n ih =>
    intro h
    by_cases hl:∃ k,k<n∧p k
    · obtain ⟨k,hk,hp⟩:=hl
      exact ih k hk hp
    · exact ⟨n,h,fun k hk=>Nat.le_of_not_lt fun hlt=>hl ⟨k,hlt,hk⟩⟩
open Classical in
noncomputable def km (p:Nat→Prop):Nat:=if h:∃ m,p m∧∀ k,p k→m≤k then Classical.choose h else 0
theorem rT {p:Nat→Prop} {n:Nat} (h:p n):p (km p)∧km p≤n:=by
  have hl:=least n h
  unfold km
  rw [dif_pos hl]
  exact ⟨(Classical.choose_spec hl).1,(Classical.choose_spec hl).2 n h⟩
def LP (cfg:iU) (G:Gh) (pl:aD) (c:Code) (K:Ex→St→Prop) (a:Act) (w:World) (n:Nat):Prop:=∃ S E,(cg cfg n).loop pl c S K∧ad G pn E S w∧TR G E S.t a
theorem fm (cfg:iU):∀ n,(cg cfg n).P=cfg.P
  | 0=>rfl
  | _ + 1=>rfl
theorem w9 {cfg:iU} {N:Nat} (h:∀ m,m<N→bH (cg cfg m)∧f5 (cg cfg m)∧fh (cg cfg m)):f5 (cg cfg N):=by
  intro pl c S K hl r hr G E a w Q hM ht hQ
  rw [fm]
  refine wpIn_loop (fun a w=>∃ n,n≤N∧LP cfg G pl c K a w n) (fun a w=>km fun n=>n≤N∧LP cfg G pl c K a w n) ⟨N,Nat.le_refl _,S,E,hl,hM,ht⟩ (fun a1 w1 hI=>?_)
  obtain ⟨n0,hn0⟩:=hI
  have hsp:=(rT (p:=fun n=>n≤N∧LP cfg G pl c K a1 w1 n) hn0).1
  generalize hmu:(km fun n=>n≤N∧LP cfg G pl c K a1 w1 n)=mu
  rw [hmu] at hsp
  obtain ⟨hle,S1,E1,hl1,hM1,ht1⟩:=hsp
  cases mu with
  | zero=>exact False.elim hl1
  | succ m =>
    obtain ⟨h1,h2,h3⟩:=h m hle
    have hl2:cF (cg cfg m) pl c S1 fun e S'=>match e with
      | .nrm=>(cg cfg m).loop pl c S' K
      | .ex i=>K (.ex i) S'
      | .ret=>K .ret S':=(fk (C:=cg cfg m) (k:=fun C=>cF C pl c S1 fun e S'=>match e with
      | .nrm=>C.loop pl c S' K
      | .ex i=>K (.ex i) S'
      | .ret=>K .ret S')).1 hl1
    have hr':RF (cg cfg m) c r:=fun _=>hr (by cases N with | zero=>exact absurd hle (by omega) | succ N=>rfl)
    have:=ez h1 h2 h3 c hl2 r hr' G E1 a1 w1 (Exit.then (fun a' w'=>(∃ n,n≤N∧LP cfg G pl c K a' w' n)∧(km fun n=>n≤N∧LP cfg G pl c K a' w' n)<m + 1) Q) hM1 ht1 (fun e S' E' a' w' hk hS htr=>by
      cases e with
      | nrm =>
        have hp:m≤N∧LP cfg G pl c K a' w' m:=⟨Nat.le_of_succ_le hle,S',E',hk,hS,htr⟩
        exact ⟨⟨m,hp⟩,Nat.lt_succ_of_le (rT (p:=fun n=>n≤N∧LP cfg G pl c K a' w' n) hp).2⟩
      | ex i=>exact hQ (.ex i) _ _ _ _ hk hS htr
      | ret=>exact hQ .ret _ _ _ _ hk hS htr)
    rw [fm] at this
    exact this
theorem w_ {cfg:iU} (hQ:∀ f args r,cfg.xq f args=some r→qp cfg.P f args r) (hX:∀ f args o K,cfg.xc f args o K→i4 cfg.P f args o K) (hN:fP cfg.P) (hA:∀ n,ni (cg cfg n)) (hD:∀ n,bH (cg cfg n)→fh (cg cfg n)):∀ n,bH (cg cfg n)∧f5 (cg cfg n)∧fh (cg cfg n):=by
  intro n
  induction n using Nat.strongRecOn with
  | _ n ih =>
    have hC:bH (cg cfg n):=by
      cases n with
      | zero=>exact ⟨fun f args K h=>False.elim h,fun f args o K h=>False.elim h,fun id args o K h=>False.elim h⟩
      | succ n =>
        obtain ⟨h1,h2,h3⟩:=ih n (Nat.lt_succ_self n)
        have hN':fP (cg cfg n).P:=by rw [fm]; exact hN
        refine ⟨fun f args K h=>?_,fun f args o K h=>?_,fun id args o K h=>?_⟩
        · rw [fm]
          have h:(match cfg.xq f args with | some r=>K r | none=>jY (cg cfg n) f args K):=h
          split at h
          · rename_i r hr
            exact ⟨r,hQ _ _ _ hr,h⟩
          · have:=im h1 h2 h3 hN' (hA n) h
            rw [fm] at this
            exact this
        · rw [fm]
          have h:(match cfg.xs f with | true=>cfg.xc f args o K | false=>kO (cg cfg n) f args o K):=h
          split at h
          · exact hX _ _ _ _ h
          · have:=kj h1 h2 h3 hN' h
            rw [fm] at this
            exact this
        · rw [fm]
          have h:gr (cg cfg n) fun C=>fX C id args o K:=h
          rw [fk] at h
          have:=qC h1 h2 h3 h
          rw [fm] at this
          exact this
    exact ⟨hC,w9 ih,hD n hC⟩
def aj {α:Type} (X:(α→Prop)→Prop):Prop:=∀ K,X K→∃ r,K r∧∀ K',K' r→X K'
def ah {α β:Type} (X:(α→β→Prop)→Prop):Prop:=∀ K,X K→∃ a b,K a b∧∀ K',K' a b→X K'
def a4 {α β γ:Type} (X:(α→β→γ→Prop)→Prop):Prop:=∀ K,X K→∃ a b c,K a b c∧∀ K',K' a b c→X K'
theorem aj.failN {α:Type} {n:Nat}:aj (fun _:α→Prop=>ac n):=fun _ h=>False.elim h
theorem ah.failN {α β:Type} {n:Nat}:ah (fun _:α→β→Prop=>ac n):=fun _ h=>False.elim h
theorem a4.failN {α β γ:Type} {n:Nat}:a4 (fun _:α→β→γ→Prop=>ac n):=fun _ h=>False.elim h
theorem aj.ret {α:Type} (a:α):aj (fun K=>K a):=fun _ h=>⟨a,h,fun _ h=>h⟩
theorem ah.ret {α β:Type} (a:α) (b:β):ah (fun K=>K a b):=fun _ h=>⟨a,b,h,fun _ h=>h⟩
theorem a4.ret {α β γ:Type} (a:α) (b:β) (c:γ):a4 (fun K=>K a b c):=fun _ h=>⟨a,b,c,h,fun _ h=>h⟩
theorem aj.chk {α:Type} {b:Bool} {X:(α→Prop)→Prop} (h:aj X):aj (fun K=>aB b (X K)):=fun K hk=>by
  obtain ⟨hb,hx⟩:=ab hk
  obtain ⟨r,h1,h2⟩:=h K hx
  exact ⟨r,h1,fun K' hk'=>af hb (h2 K' hk')⟩
theorem ah.chk {α β:Type} {b:Bool} {X:(α→β→Prop)→Prop} (h:ah X):ah (fun K=>aB b (X K)):=fun K hk=>by
  obtain ⟨hb,hx⟩:=ab hk
  obtain ⟨r,s,h1,h2⟩:=h K hx
  exact ⟨r,s,h1,fun K' hk'=>af hb (h2 K' hk')⟩
theorem a4.chk {α β γ:Type} {b:Bool} {X:(α→β→γ→Prop)→Prop} (h:a4 X):a4 (fun K=>aB b (X K)):=fun K hk=>by
  obtain ⟨hb,hx⟩:=ab hk
  obtain ⟨r,s,t,h1,h2⟩:=h K hx
  exact ⟨r,s,t,h1,fun K' hk'=>af hb (h2 K' hk')⟩
theorem aj.fork {α:Type} {b:Bool} {X Y:(α→Prop)→Prop} (h:aj X) (k:aj Y):aj (fun K=>q9 b (X K) (Y K)):=by
  cases b
  · exact k
  · exact h
theorem ah.fork {α β:Type} {b:Bool} {X Y:(α→β→Prop)→Prop} (h:ah X) (k:ah Y):ah (fun K=>q9 b (X K) (Y K)):=by
  cases b
  · exact k
  · exact h
theorem aj.gsel {α:Type} {b:Option Bool} {w:Bool} {X Y:(α→Prop)→Prop} (h:aj X) (k:aj Y):aj (fun K=>gsel b w (X K) (Y K)):=by
  unfold A.gsel
  split
  · exact h
  · exact h
  · exact k
theorem aj.bind {α β:Type} {X:(α→Prop)→Prop} {Y:α→(β→Prop)→Prop} (h:aj X) (k:∀ a,aj (Y a)):aj (fun K=>X fun a=>Y a K):=fun K hk=>by
  obtain ⟨r,h1,h2⟩:=h _ hk
  obtain ⟨s,h3,h4⟩:=k r K h1
  exact ⟨s,h3,fun K' hk'=>h2 _ (h4 K' hk')⟩
theorem aj.bind2 {α β γ:Type} {X:(α→Prop)→Prop} {Y:α→(β→γ→Prop)→Prop} (h:aj X) (k:∀ a,ah (Y a)):ah (fun K=>X fun a=>Y a K):=fun K hk=>by
  obtain ⟨r,h1,h2⟩:=h _ hk
  obtain ⟨s,t,h3,h4⟩:=k r K h1
  exact ⟨s,t,h3,fun K' hk'=>h2 _ (h4 K' hk')⟩
theorem ah.bind {α β γ:Type} {X:(α→β→Prop)→Prop} {Y:α→β→(γ→Prop)→Prop} (h:ah X) (k:∀ a b,aj (Y a b)):aj (fun K=>X fun a b=>Y a b K):=fun K hk=>by
  obtain ⟨r,s,h1,h2⟩:=h _ hk
  obtain ⟨t,h3,h4⟩:=k r s K h1
  exact ⟨t,h3,fun K' hk'=>h2 _ (h4 K' hk')⟩
theorem ah.bind2 {α β γ δ:Type} {X:(α→β→Prop)→Prop} {Y:α→β→(γ→δ→Prop)→Prop} (h:ah X) (k:∀ a b,ah (Y a b)):ah (fun K=>X fun a b=>Y a b K):=fun K hk=>by
  obtain ⟨r,s,h1,h2⟩:=h _ hk
  obtain ⟨t,u,h3,h4⟩:=k r s K h1
  exact ⟨t,u,h3,fun K' hk'=>h2 _ (h4 K' hk')⟩
theorem a4.bind {α β γ δ:Type} {X:(α→β→γ→Prop)→Prop} {Y:α→β→γ→(δ→Prop)→Prop} (h:a4 X) (k:∀ a b c,aj (Y a b c)):aj (fun K=>X fun a b c=>Y a b c K):=fun K hk=>by
  obtain ⟨r,s,q,h1,h2⟩:=h _ hk
  obtain ⟨t,h3,h4⟩:=k r s q K h1
  exact ⟨t,h3,fun K' hk'=>h2 _ (h4 K' hk')⟩
theorem dF {α:Type} {n:Nat}:aj (fun _:α→Prop=>ac n):=aj.failN
theorem c6 {α β:Type} {n:Nat}:ah (fun _:α→β→Prop=>ac n):=ah.failN
theorem c7 {α β γ:Type} {n:Nat}:a4 (fun _:α→β→γ→Prop=>ac n):=a4.failN
theorem dR {α:Type} (a:α):aj (fun K=>K a):=aj.ret a
theorem cI {α β:Type} (a:α) (b:β):ah (fun K=>K a b):=ah.ret a b
theorem c8 {α β γ:Type} (a:α) (b:β) (c:γ):a4 (fun K=>K a b c):=a4.ret a b c
theorem dC {α:Type} {b:Bool} {X:(α→Prop)→Prop} (h:aj X):aj (fun K=>aB b (X K)):=aj.chk h
theorem cM {α β:Type} {b:Bool} {X:(α→β→Prop)→Prop} (h:ah X):ah (fun K=>aB b (X K)):=ah.chk h
theorem c9 {α β γ:Type} {b:Bool} {X:(α→β→γ→Prop)→Prop} (h:a4 X):a4 (fun K=>aB b (X K)):=a4.chk h
theorem db {α β:Type} {X:(α→Prop)→Prop} {Y:α→(β→Prop)→Prop} (h:aj X) (k:∀ a,aj (Y a)):aj (fun K=>X fun a=>Y a K):=aj.bind h k
theorem aC {α β γ:Type} {X:(α→Prop)→Prop} {Y:α→(β→γ→Prop)→Prop} (h:aj X) (k:∀ a,ah (Y a)):ah (fun K=>X fun a=>Y a K):=aj.bind2 h k
theorem dd {α β γ:Type} {X:(α→β→Prop)→Prop} {Y:α→β→(γ→Prop)→Prop} (h:ah X) (k:∀ a b,aj (Y a b)):aj (fun K=>X fun a b=>Y a b K):=ah.bind h k
theorem lI {α β γ δ:Type} {X:(α→β→Prop)→Prop} {Y:α→β→(γ→δ→Prop)→Prop} (h:ah X) (k:∀ a b,ah (Y a b)):ah (fun K=>X fun a b=>Y a b K):=ah.bind2 h k
theorem dt {α β γ δ:Type} {X:(α→β→γ→Prop)→Prop} {Y:α→β→γ→(δ→Prop)→Prop} (h:a4 X) (k:∀ a b c,aj (Y a b c)):aj (fun K=>X fun a b c=>Y a b c K):=a4.bind h k
theorem aj.of_iff {α:Type} {X:(α→Prop)→Prop} {a:α} (h:∀ K:α→Prop,X K↔K a):aj X:=fun K hk=>⟨a,(h K).1 hk,fun K' hk'=>(h K').2 hk'⟩
theorem co {a:AV}:aj (dX a):=.of_iff fun _=>aQ
theorem aE {xs:List AV}:aj (dI xs):=.of_iff fun _=>bM
theorem io {xs:List AV}:aj (jT xs):=.of_iff fun _=>ch
theorem gE {xs:List (Nat×List AV)}:aj (gY xs):=.of_iff fun _=>dN
theorem ae {xs:List Ob}:aj (ay xs):=.of_iff fun _=>ak
theorem dk {xs:List AV} {n:Nat}:aj (ji xs n):=fun K h=>by
  obtain ⟨a,h1,h2⟩:=aY.1 h
  exact ⟨a,h2,fun K' h3=>aY.2 ⟨a,h1,h3⟩⟩
theorem eA {xs:List AV} {n:Nat} {v:AV}:aj (kJ xs n v):=.of_iff fun _=>bV
theorem az {dst:Option Tmp} {a:AV} {S:St}:aj (aA dst a S):=.of_iff fun _=>al
theorem aH {k:Key} {xs:List AV}:aj (eZ k xs):=.of_iff fun _=>cx
theorem aG {k:Key} {xs:List (Nat×List AV)}:aj (gk k xs):=.of_iff fun _=>dA
theorem bT {k:Key} {xs:List Ob}:aj (cU k xs):=.of_iff fun _=>br
theorem aS {S:St} {x:Operand}:aj (a_ S x):=by
  unfold a_
  repeat' first
    |exact dF|exact dk|exact co|exact dR _|refine aj.bind co (fun _=>?_)|split
theorem aw {S:St}:∀ {xs:List Operand},aj (bC S xs)
  | []=>aj.ret _
  | x::xs=>by
    show aj (fun K=>a_ S x fun a=>bC S xs fun as=>K (a::as))
    exact aj.bind aS (fun a=>aj.bind aw (fun as=>aj.ret (a::as)))
theorem td {d:Nat} {S:St}:ah (mz d S):=by
  unfold mz
  refine aj.bind2 dk (fun a=>?_)
  split
  · exact ah.fork (aj.bind2 eA (fun _=>ah.ret _ _)) (aj.bind2 eA (fun _=>ah.ret _ _))
  · exact ah.failN
theorem te {c:Operand} {S:St}:ah (gX c S):=by
  unfold gX
  split
  · exact td
  · exact ah.fork (ah.ret _ _) (ah.ret _ _)
  · exact ah.failN
structure cE (C:Ctx):Prop where
  pcall:∀ f args,aj (C.pcall f args)
  scall:∀ f args o,ah (C.scall f args o)
  loop:∀ pl c S,ah (C.loop pl c S)
  ycall:∀ id args o,ah (C.ycall id args o)
theorem aT {a:AV}:aj (gm a):=by
  unfold gm
  repeat' first
    |exact dF|exact c6|exact c7|exact dR _|exact cI _ _|exact c8 _ _ _|refine dC ?_|refine cM ?_|refine c9 ?_|split
theorem kn {S:St} {key:Key} {i:Nat}:aj (om S key i):=by
  unfold om
  repeat' first
    |exact dF|exact c6|exact c7|exact dR _|exact cI _ _|exact c8 _ _ _|refine dC ?_|refine cM ?_|refine c9 ?_|split
theorem mj {S:St} {a:AV}:ah (vC S a):=by
  unfold vC
  repeat' first
    |exact dF|exact c6|exact c7|exact dR _|exact cI _ _|exact c8 _ _ _|refine dC ?_|refine cM ?_|refine c9 ?_|exact kn|refine db kn fun _=>?_
    |refine aC kn fun _=>?_|split
theorem bz {P:Program} {t:TypeId} {row:List AV} {j:Nat}:aj (dJ P t row j):=by
  unfold dJ
  repeat' first
    |exact dF|exact c6|exact c7|exact dR _|exact cI _ _|exact c8 _ _ _|refine dC ?_|refine cM ?_|refine c9 ?_|exact aE|refine db aE fun _=>?_
    |refine aC aE fun _=>?_|split
theorem jC {S:St} {a:AV} {cs:List AV}:aj (fV S a cs):=by
  unfold fV
  repeat' first
    |exact dF|exact c6|exact c7|exact dR _|exact cI _ _|exact c8 _ _ _|refine dC ?_|refine cM ?_|refine c9 ?_|exact aE|refine db aE fun _=>?_
    |refine aC aE fun _=>?_|exact gE|refine db gE fun _=>?_|refine aC gE fun _=>?_|exact ae|refine db ae fun _=>?_
    |refine aC ae fun _=>?_|split
theorem kX {op:BinOp} {x y:Value}:aj (mD op x y):=by
  unfold mD
  repeat' first
    |exact dF|exact c6|exact c7|exact dR _|exact cI _ _|exact c8 _ _ _|refine dC ?_|refine cM ?_|refine c9 ?_|split
theorem kY {P:Program} {op:BinOp} {t:TypeId} {a b:Bool}:aj (ra P op t a b):=by
  unfold ra
  repeat' first
    |exact dF|exact c6|exact c7|exact dR _|exact cI _ _|exact c8 _ _ _|refine dC ?_|refine cM ?_|refine c9 ?_|split
theorem kZ {P:Program} {op:BinOp} {t:TypeId} {a b:Value}:aj (oV P op t a b):=by
  unfold oV
  repeat' first
    |exact dF|exact c6|exact c7|exact dR _|exact cI _ _|exact c8 _ _ _|refine dC ?_|refine cM ?_|refine c9 ?_|exact kY|refine db kY fun _=>?_
    |refine aC kY fun _=>?_|exact kX|refine db kX fun _=>?_|refine aC kX fun _=>?_|split
theorem nj {op:BinOp} {x y:AV}:aj (vG op x y):=by
  unfold vG
  repeat' first
    |exact dF|exact c6|exact c7|exact dR _|exact cI _ _|exact c8 _ _ _|refine dC ?_|refine cM ?_|refine c9 ?_|split
theorem ko {P:Program} {op:BinOp} {t:TypeId} {x y:AV}:aj (sM P op t x y):=by
  unfold sM
  repeat' first
    |exact dF|exact c6|exact c7|exact dR _|exact cI _ _|exact c8 _ _ _|refine dC ?_|refine cM ?_|refine c9 ?_|exact kZ|refine db kZ fun _=>?_
    |refine aC kZ fun _=>?_|exact nj|refine db nj fun _=>?_|refine aC nj fun _=>?_|split
theorem qD {op:UnOp} {x:AV}:aj (yQ op x):=by
  unfold yQ
  repeat' first
    |exact dF|exact c6|exact c7|exact dR _|exact cI _ _|exact c8 _ _ _|refine dC ?_|refine cM ?_|refine c9 ?_|split
theorem ar {P:Program} {e:TypeId}:aj (a9 P e):=by
  unfold a9
  repeat' first
    |exact dF|exact c6|exact c7|exact dR _|exact cI _ _|exact c8 _ _ _|refine dC ?_|refine cM ?_|refine c9 ?_|exact io|refine db io fun _=>?_
    |refine aC io fun _=>?_|split
theorem cZ {d:Nat} {S:St}:aj (oW d S):=by
  unfold oW
  repeat' first
    |exact dF|exact c6|exact c7|exact dR _|exact cI _ _|exact c8 _ _ _|refine dC ?_|refine cM ?_|refine c9 ?_|exact aH|refine db aH fun _=>?_
    |refine aC aH fun _=>?_|exact aG|refine db aG fun _=>?_|refine aC aG fun _=>?_|split
theorem cp:∀ (ds:List Nat) (S:St),aj (gn ds S)
  | [],S=>by
    show aj (fun K=>gn [] S K)
    unfold gn
    repeat' first
      | exact aj.failN
      | exact ah.failN
      | exact a4.failN
      | exact aj.ret _
      | exact ah.ret _ _
      | exact a4.ret _ _ _
      | refine aj.chk ?_
      | refine ah.chk ?_
      | refine a4.chk ?_
      | exact cp _ _
      | refine db (cp _ _) fun _=>?_
      | refine aC (cp _ _) fun _=>?_
      | exact cZ
      | refine db cZ fun _=>?_
      | refine aC cZ fun _=>?_
      | split
  | d::ds,S=>by
    show aj (fun K=>gn (d::ds) S K)
    unfold gn
    repeat' first
      | exact aj.failN
      | exact ah.failN
      | exact a4.failN
      | exact aj.ret _
      | exact ah.ret _ _
      | exact a4.ret _ _ _
      | refine aj.chk ?_
      | refine ah.chk ?_
      | refine a4.chk ?_
      | exact cp _ _
      | refine db (cp _ _) fun _=>?_
      | refine aC (cp _ _) fun _=>?_
      | exact cZ
      | refine db cZ fun _=>?_
      | refine aC cZ fun _=>?_
      | split
theorem dw {j b:Nat} {o:List Ob} {ob:Ob}:aj (gZ j o b ob):=by
  unfold gZ
  repeat' first
    |exact dF|refine dC ?_|exact ae|split
theorem nk {pl:aD} {dst:Option Tmp} {cs:List AV} {S:St}:aj (rb pl dst cs S):=by
  unfold rb
  repeat' first
    |exact dF|exact c6|exact c7|exact dR _|exact cI _ _|exact c8 _ _ _|refine dC ?_|refine cM ?_|refine c9 ?_|exact ae|refine db ae fun _=>?_
    |refine aC ae fun _=>?_|exact eA|refine db eA fun _=>?_|refine aC eA fun _=>?_|exact dw|refine db dw fun _=>?_|refine aC dw fun _=>?_|exact cZ|refine db cZ fun _=>?_
    |refine aC cZ fun _=>?_|exact aH|refine db aH fun _=>?_|refine aC aH fun _=>?_|split
theorem bA:∀ (ps:List (Nat×AV)) (place:Nat→Option (Nat×Nat)) (cells:List AV),aj (gP place cells ps)
  | [],p,c=>by
    show aj (fun K=>gP p c [] K)
    unfold gP
    repeat' first
      | exact aj.failN
      | exact ah.failN
      | exact a4.failN
      | exact aj.ret _
      | exact ah.ret _ _
      | exact a4.ret _ _ _
      | refine aj.chk ?_
      | refine ah.chk ?_
      | refine a4.chk ?_
      | exact bA _ _ _
      | refine db (bA _ _ _) fun _=>?_
      | refine aC (bA _ _ _) fun _=>?_
      | exact aE
      | refine db aE fun _=>?_
      | refine aC aE fun _=>?_
      | exact aT
      | refine db aT fun _=>?_
      | refine aC aT fun _=>?_
      | split
  | (i,x)::rest,p,c=>by
    show aj (fun K=>gP p c ((i,x)::rest) K)
    unfold gP
    repeat' first
      | exact aj.failN
      | exact ah.failN
      | exact a4.failN
      | exact aj.ret _
      | exact ah.ret _ _
      | exact a4.ret _ _ _
      | refine aj.chk ?_
      | refine ah.chk ?_
      | refine a4.chk ?_
      | exact bA _ _ _
      | refine db (bA _ _ _) fun _=>?_
      | refine aC (bA _ _ _) fun _=>?_
      | exact aE
      | refine db aE fun _=>?_
      | refine aC aE fun _=>?_
      | exact aT
      | refine db aT fun _=>?_
      | refine aC aT fun _=>?_
      | split
theorem jD {P:Program} {t:TypeId} {parts:List (Nat×AV)}:aj (mF P t parts):=by
  unfold mF
  repeat' first
    |exact dF|exact c6|exact c7|exact dR _|exact cI _ _|exact c8 _ _ _|refine dC ?_|refine cM ?_|refine c9 ?_|exact ar|refine db ar fun _=>?_
    |refine aC ar fun _=>?_|exact bA _ _ _|refine db (bA _ _ _) fun _=>?_|refine aC (bA _ _ _) fun _=>?_|split
theorem aU:∀ (xs:List (List AV)),aj (cv xs)
  | []=>by
    show aj (fun K=>cv [] K)
    unfold cv
    repeat' first
      | exact aj.failN
      | exact ah.failN
      | exact a4.failN
      | exact aj.ret _
      | exact ah.ret _ _
      | exact a4.ret _ _ _
      | refine aj.chk ?_
      | refine ah.chk ?_
      | refine a4.chk ?_
      | exact aU _
      | refine db (aU _) fun _=>?_
      | refine aC (aU _) fun _=>?_
      | exact aE
      | refine db aE fun _=>?_
      | refine aC aE fun _=>?_
      | split
  | x::xs=>by
    show aj (fun K=>cv (x::xs) K)
    unfold cv
    repeat' first
      | exact aj.failN
      | exact ah.failN
      | exact a4.failN
      | exact aj.ret _
      | exact ah.ret _ _
      | exact a4.ret _ _ _
      | refine aj.chk ?_
      | refine ah.chk ?_
      | refine a4.chk ?_
      | exact aU _
      | refine db (aU _) fun _=>?_
      | refine aC (aU _) fun _=>?_
      | exact aE
      | refine db aE fun _=>?_
      | refine aC aE fun _=>?_
      | split
theorem eE {P:Program} {pl:aD} {dst:Option Tmp} {t:TypeId} {len:Nat} {parts:List (Nat×AV)} {S:St}:aj (ep P pl dst t len parts S):=by
  unfold ep
  repeat' first
    |exact dF|exact c6|exact c7|exact dR _|exact cI _ _|exact c8 _ _ _|refine dC ?_|refine cM ?_|refine c9 ?_|exact az|refine db az fun _=>?_
    |refine aC az fun _=>?_|exact ar|refine db ar fun _=>?_|refine aC ar fun _=>?_|exact bA _ _ _|refine db (bA _ _ _) fun _=>?_
    |refine aC (bA _ _ _) fun _=>?_|exact aU _|refine db (aU _) fun _=>?_|refine aC (aU _) fun _=>?_|exact ae
    |refine db ae fun _=>?_|refine aC ae fun _=>?_|split
theorem gF {P:Program} {pl:aD} {dst:Option Tmp} {t:TypeId} {len:Nat} {parts:List (Nat×AV)}:aj (g0 P pl dst t len parts):=by
  unfold g0
  repeat' first
    |exact dF|exact c6|exact c7|exact dR _|exact cI _ _|exact c8 _ _ _|refine dC ?_|refine cM ?_|refine c9 ?_|exact ar|refine db ar fun _=>?_
    |refine aC ar fun _=>?_|exact bA _ _ _|refine db (bA _ _ _) fun _=>?_|refine aC (bA _ _ _) fun _=>?_|exact aU _
    |refine db (aU _) fun _=>?_|refine aC (aU _) fun _=>?_|split
theorem nm {P:Program} {t:TypeId} {S:St} {x:AV}:aj (vJ P t S x):=by
  unfold vJ
  repeat' first
    |exact dF|exact c6|exact c7|exact dR _|exact cI _ _|exact c8 _ _ _|refine dC ?_|refine cM ?_|refine c9 ?_|split
theorem bJ {size:Nat} {S:St} {x:AV}:ah (eq size S x):=by
  unfold eq
  repeat' first
    |exact dF|exact c6|exact c7|exact dR _|exact cI _ _|exact c8 _ _ _|refine dC ?_|refine cM ?_|refine c9 ?_|refine aC kn fun _=>?_|split
theorem k0 {S:St} {id:Nat} {ob:Ob}:ah (iW S id ob):=by
  unfold iW
  repeat' first
    |exact dF|exact c6|exact c7|exact dR _|exact cI _ _|exact c8 _ _ _|refine dC ?_|refine cM ?_|refine c9 ?_|exact aH|refine db aH fun _=>?_
    |refine aC aH fun _=>?_|exact aG|refine db aG fun _=>?_|refine aC aG fun _=>?_|exact bT|refine db bT fun _=>?_
    |refine aC bT fun _=>?_|exact ae|refine db ae fun _=>?_|refine aC ae fun _=>?_|split
theorem ip {P:Program} {ts:List TypeId} {base x:AV} {S:St}:ah (ei P ts base x S):=by
  unfold ei
  repeat' first
    |exact dF|exact c6|exact c7|exact dR _|exact cI _ _|exact c8 _ _ _|refine dC ?_|refine cM ?_|refine c9 ?_|exact bJ|refine dd bJ fun _ _=>?_
    |refine lI bJ fun _ _=>?_|exact ae|refine db ae fun _=>?_|refine aC ae fun _=>?_|exact k0|refine dd k0 fun _ _=>?_
    |refine lI k0 fun _ _=>?_|split
theorem qE {P:Program} {ts:List TypeId} {base x:AV}:aj (e6 P ts base x):=by
  unfold e6
  repeat' first
    |exact dF|exact c6|exact c7|exact dR _|exact cI _ _|exact c8 _ _ _|refine dC ?_|refine cM ?_|refine c9 ?_|exact bJ|refine dd bJ fun _ _=>?_
    |refine lI bJ fun _ _=>?_|split
theorem gG {P:Program} {ts:List TypeId} {base:AV} {n:Int} {S:St}:ah (e7 P ts base n S):=by
  unfold e7
  repeat' first
    |exact dF|exact c6|exact c7|exact dR _|exact cI _ _|exact c8 _ _ _|refine dC ?_|refine cM ?_|refine c9 ?_|exact ar|refine db ar fun _=>?_
    |refine aC ar fun _=>?_|exact ae|refine db ae fun _=>?_|refine aC ae fun _=>?_|split
theorem np {P:Program} {ts:List TypeId} {x:AV}:aj (vK P ts x):=by
  unfold vK
  repeat' first
    |exact dF|exact c6|exact c7|exact dR _|exact cI _ _|exact c8 _ _ _|refine dC ?_|refine cM ?_|refine c9 ?_|split
theorem k8 {P:Program} {ts:List TypeId} {x y:AV} {M:St}:ah (ll P ts x y M):=by
  unfold ll
  repeat' first
    |exact dF|exact c6|exact c7|exact dR _|exact cI _ _|exact c8 _ _ _|refine dC ?_|refine cM ?_|refine c9 ?_|exact bJ|refine dd bJ fun _ _=>?_
    |refine lI bJ fun _ _=>?_|exact ae|refine db ae fun _=>?_|refine aC ae fun _=>?_|split
theorem tf {P:Program} {ts:List TypeId} {x:AV} {M:St}:aj (g3 P ts x M):=by
  unfold g3
  repeat' first
    |exact dF|exact c6|exact c7|exact dR _|exact cI _ _|exact c8 _ _ _|refine dC ?_|refine cM ?_|refine c9 ?_|refine db ar fun _=>?_|refine db ae fun _=>?_|split
theorem ax {a:AV}:aj (intOf a):=by
  unfold intOf
  repeat' first
    |exact dF|exact c6|exact c7|exact dR _|exact cI _ _|exact c8 _ _ _|refine dC ?_|refine cM ?_|refine c9 ?_|split
theorem ce {P:Program} {t:TypeId} {l c:AV} {S:St}:ah (aJ P t l c S):=by
  unfold aJ
  repeat' first
    |exact dF|exact c6|exact c7|exact dR _|exact cI _ _|exact c8 _ _ _|refine dC ?_|refine cM ?_|refine c9 ?_|exact ax|refine db ax fun _=>?_
    |refine aC ax fun _=>?_|exact ar|refine db ar fun _=>?_|refine aC ar fun _=>?_|exact ae|refine db ae fun _=>?_
    |refine aC ae fun _=>?_|split
theorem rU {len cap:Nat} {lo hi mx:Option Int}:a4 (kK len cap lo hi mx):=by
  unfold kK
  repeat' first
    |exact dF|exact c6|exact c7|exact dR _|exact cI _ _|exact c8 _ _ _|refine dC ?_|refine cM ?_|refine c9 ?_|split
theorem jE {P:Program} {t:TypeId} {x:AV} {lo hi mx:Option Int} {S:St}:aj (dY P t x lo hi mx S):=by
  unfold dY
  repeat' first
    |exact dF|exact c6|exact c7|exact dR _|exact cI _ _|exact c8 _ _ _|refine dC ?_|refine cM ?_|refine c9 ?_|exact rU|refine dt rU fun _ _ _=>?_
    |split
theorem fo {P:Program} {t:TypeId} {x ix:AV} {S:St}:aj (dp P t x ix S):=by
  unfold dp
  repeat' first
    |exact dF|exact c6|exact c7|exact dR _|exact cI _ _|exact c8 _ _ _|refine dC ?_|refine cM ?_|refine c9 ?_|exact ax|refine db ax fun _=>?_
    |refine aC ax fun _=>?_|split
theorem jF {P:Program} {t:TypeId} {x ix:AV}:aj (jj P t x ix):=by
  unfold jj
  repeat' first
    |exact dF|exact c6|exact c7|exact dR _|exact cI _ _|exact c8 _ _ _|refine dC ?_|refine cM ?_|refine c9 ?_|exact ax|refine db ax fun _=>?_
    |refine aC ax fun _=>?_|exact bz|refine db bz fun _=>?_|refine aC bz fun _=>?_|split
theorem fp {P:Program} {t:TypeId} {x:AV} {f:Nat}:aj (e8 P t x f):=by
  unfold e8
  repeat' first
    |exact dF|exact c6|exact c7|exact dR _|exact cI _ _|exact c8 _ _ _|refine dC ?_|refine cM ?_|refine c9 ?_|split
theorem jG {P:Program} {t:TypeId} {x:AV} {f:Nat}:aj (mH P t x f):=by
  unfold mH
  repeat' first
    |exact dF|exact c6|exact c7|exact dR _|exact cI _ _|exact c8 _ _ _|refine dC ?_|refine cM ?_|refine c9 ?_|exact bz|refine db bz fun _=>?_
    |refine aC bz fun _=>?_|split
theorem qF {P:Program} {src dst:TypeId} {x:AV}:aj (g4 P src dst x):=by
  unfold g4
  repeat' first
    |exact dF|exact c6|exact c7|exact dR _|exact cI _ _|exact c8 _ _ _|refine dC ?_|refine cM ?_|refine c9 ?_|split
theorem f6 {P:Program} {src dst:TypeId} {x:AV} {S:St}:aj (cw P src dst x S):=by
  unfold cw
  repeat' first
    |exact dF|exact c6|exact c7|exact dR _|exact cI _ _|exact c8 _ _ _|refine dC ?_|refine cM ?_|refine c9 ?_|exact qF|refine dd bJ fun _ _=>?_|split
theorem uY {P:Program} {op:BinOp} {t:TypeId} {x y:AV} {S:St}:aj (lm P op t x y S):=by
  unfold lm
  repeat' first
    |exact dF|exact c6|exact c7|exact dR _|exact cI _ _|exact c8 _ _ _|refine dC ?_|refine cM ?_|refine c9 ?_|exact ko|split
theorem fq {o:List Ob} {a:AV}:aj (qb o a):=by
  unfold qb
  repeat' first
    |exact dF|exact c6|exact c7|exact dR _|exact cI _ _|exact c8 _ _ _|refine dC ?_|refine cM ?_|refine c9 ?_|exact co|refine db co fun _=>?_
    |refine aC co fun _=>?_|split
theorem bK:∀ (xs:List AV) (o:List Ob),aj (dV o xs)
  | [],o=>by
    show aj (fun K=>dV o [] K)
    unfold dV
    repeat' first
      | exact aj.failN
      | exact ah.failN
      | exact a4.failN
      | exact aj.ret _
      | exact ah.ret _ _
      | exact a4.ret _ _ _
      | refine aj.chk ?_
      | refine ah.chk ?_
      | refine a4.chk ?_
      | exact bK _ _
      | refine db (bK _ _) fun _=>?_
      | refine aC (bK _ _) fun _=>?_
      | exact fq
      | refine db fq fun _=>?_
      | refine aC fq fun _=>?_
      | split
  | x::xs,o=>by
    show aj (fun K=>dV o (x::xs) K)
    unfold dV
    repeat' first
      | exact aj.failN
      | exact ah.failN
      | exact a4.failN
      | exact aj.ret _
      | exact ah.ret _ _
      | exact a4.ret _ _ _
      | refine aj.chk ?_
      | refine ah.chk ?_
      | refine a4.chk ?_
      | exact bK _ _
      | refine db (bK _ _) fun _=>?_
      | refine aC (bK _ _) fun _=>?_
      | exact fq
      | refine db fq fun _=>?_
      | refine aC fq fun _=>?_
      | split
theorem bd:∀ (xs:List Nat) (S:St),aj (b_ xs S)
  | [],S=>by
    show aj (fun K=>b_ [] S K)
    unfold b_
    repeat' first
      | exact aj.failN
      | exact ah.failN
      | exact a4.failN
      | exact aj.ret _
      | exact ah.ret _ _
      | exact a4.ret _ _ _
      | refine aj.chk ?_
      | refine ah.chk ?_
      | refine a4.chk ?_
      | exact bd _ _
      | refine db (bd _ _) fun _=>?_
      | refine aC (bd _ _) fun _=>?_
      | exact aH
      | refine db aH fun _=>?_
      | refine aC aH fun _=>?_
      | exact aG
      | refine db aG fun _=>?_
      | refine aC aG fun _=>?_
      | exact bT
      | refine db bT fun _=>?_
      | refine aC bT fun _=>?_
      | exact ae
      | refine db ae fun _=>?_
      | refine aC ae fun _=>?_
      | split
  | x::xs,S=>by
    show aj (fun K=>b_ (x::xs) S K)
    unfold b_
    repeat' first
      | exact aj.failN
      | exact ah.failN
      | exact a4.failN
      | exact aj.ret _
      | exact ah.ret _ _
      | exact a4.ret _ _ _
      | refine aj.chk ?_
      | refine ah.chk ?_
      | refine a4.chk ?_
      | exact bd _ _
      | refine db (bd _ _) fun _=>?_
      | refine aC (bd _ _) fun _=>?_
      | exact aH
      | refine db aH fun _=>?_
      | refine aC aH fun _=>?_
      | exact aG
      | refine db aG fun _=>?_
      | refine aC aG fun _=>?_
      | exact bT
      | refine db bT fun _=>?_
      | refine aC bT fun _=>?_
      | exact ae
      | refine db ae fun _=>?_
      | refine aC ae fun _=>?_
      | split
theorem bN:∀ (xs:List Nat) (t:List AV) (l:List (Nat×List AV)),ah (dq xs t l)
  | [],t,l=>by
    show ah (fun K=>dq [] t l K)
    unfold dq
    repeat' first
      | exact aj.failN
      | exact ah.failN
      | exact a4.failN
      | exact aj.ret _
      | exact ah.ret _ _
      | exact a4.ret _ _ _
      | refine aj.chk ?_
      | refine ah.chk ?_
      | refine a4.chk ?_
      | exact bN _ _ _
      | refine dd (bN _ _ _) fun _ _=>?_
      | refine lI (bN _ _ _) fun _ _=>?_
      | exact aH
      | refine db aH fun _=>?_
      | refine aC aH fun _=>?_
      | exact aG
      | refine db aG fun _=>?_
      | refine aC aG fun _=>?_
      | split
  | x::xs,t,l=>by
    show ah (fun K=>dq (x::xs) t l K)
    unfold dq
    repeat' first
      | exact aj.failN
      | exact ah.failN
      | exact a4.failN
      | exact aj.ret _
      | exact ah.ret _ _
      | exact a4.ret _ _ _
      | refine aj.chk ?_
      | refine ah.chk ?_
      | refine a4.chk ?_
      | exact bN _ _ _
      | refine dd (bN _ _ _) fun _ _=>?_
      | refine lI (bN _ _ _) fun _ _=>?_
      | exact aH
      | refine db aH fun _=>?_
      | refine aC aH fun _=>?_
      | exact aG
      | refine db aG fun _=>?_
      | refine aC aG fun _=>?_
      | split
theorem k9 {C:Ctx} {f:AV} {args:List AV} {S:St} (hC:cE C):ah (oY C f args S):=by
  unfold oY
  repeat' first
    |exact dF|exact c6|exact c7|exact dR _|exact cI _ _|exact c8 _ _ _|refine dC ?_|refine cM ?_|refine c9 ?_|exact bK _ _|refine db (bK _ _) fun _=>?_
    |refine aC (bK _ _) fun _=>?_|exact bd _ _|refine db (bd _ _) fun _=>?_|refine aC (bd _ _) fun _=>?_|exact bN _ _ _
    |refine dd (bN _ _ _) fun _ _=>?_|refine lI (bN _ _ _) fun _ _=>?_|exact hC.pcall _ _|refine db (hC.pcall _ _) fun _=>?_|refine aC (hC.pcall _ _) fun _=>?_
    |refine lI (hC.scall _ _ _) fun _ _=>?_|refine dd (hC.scall _ _ _) fun _ _=>?_|split
theorem bB {P:Program} {kt:TypeId} {key:AV} {es:List (AV×AV)}:ah (fI P kt key es):=by
  unfold fI
  repeat' first
    |exact dF|exact c6|exact c7|exact dR _|exact cI _ _|exact c8 _ _ _|refine dC ?_|refine cM ?_|refine c9 ?_|split
theorem cy {ok:Bool} {x:AV} {b:Bool}:aj (g5 ok x b):=by
  unfold g5
  repeat' first
    |exact dF|exact c6|exact c7|exact dR _|exact cI _ _|exact c8 _ _ _|refine dC ?_|refine cM ?_|refine c9 ?_|split
theorem b8 {P:Program} {e:TypeId} {ok:Bool}:aj (eD P e ok):=by
  unfold eD
  repeat' first
    |exact dF|exact c6|exact c7|exact dR _|exact cI _ _|exact c8 _ _ _|refine dC ?_|refine cM ?_|refine c9 ?_|exact co|refine db co fun _=>?_
    |refine aC co fun _=>?_|exact cy|refine db cy fun _=>?_|refine aC cy fun _=>?_|split
theorem iq {P:Program} {e:TypeId} {ok:Bool} {es:List (AV×AV)} {r:Option Nat}:aj (iH P e ok es r):=by
  unfold iH
  repeat' first
    |exact dF|exact c6|exact c7|exact dR _|exact cI _ _|exact c8 _ _ _|refine dC ?_|refine cM ?_|refine c9 ?_|exact cy|refine db cy fun _=>?_
    |refine aC cy fun _=>?_|exact b8|refine db b8 fun _=>?_|refine aC b8 fun _=>?_|split
theorem ir {P:Program} {t:TypeId} {m key:AV} {ok:Bool} {S:St}:aj (iI P t m key ok S):=by
  unfold iI
  repeat' first
    |exact dF|exact c6|exact c7|exact dR _|exact cI _ _|exact c8 _ _ _|refine dC ?_|refine cM ?_|refine c9 ?_|exact bB|refine dd bB fun _ _=>?_
    |refine lI bB fun _ _=>?_|exact b8|refine db b8 fun _=>?_|refine aC b8 fun _=>?_|exact iq|refine db iq fun _=>?_
    |refine aC iq fun _=>?_|split
theorem ft {P:Program} {t:TypeId} {m key x:AV} {S:St}:aj (b6 P t m key x S):=by
  unfold b6
  repeat' first
    |exact dF|exact c6|exact c7|exact dR _|exact cI _ _|exact c8 _ _ _|refine dC ?_|refine cM ?_|refine c9 ?_|exact bB|refine dd bB fun _ _=>?_
    |refine lI bB fun _ _=>?_|exact ae|refine db ae fun _=>?_|refine aC ae fun _=>?_|split
theorem ml {C:Ctx} {pl:aD} {o:Oper} {vs:List AV}:aj (pop C pl o vs):=by
  unfold pop
  repeat' first
    |exact dF|exact c6|exact c7|exact dR _|exact cI _ _|exact c8 _ _ _|refine dC ?_|refine cM ?_|refine c9 ?_|refine aj.fork ?_ ?_|refine ah.fork ?_ ?_
    |exact jD|refine db jD fun _=>?_|refine aC jD fun _=>?_|exact gF|refine db gF fun _=>?_|refine aC gF fun _=>?_
    |exact ko|refine db ko fun _=>?_|refine aC ko fun _=>?_|exact qD|refine db qD fun _=>?_|refine aC qD fun _=>?_|exact aE
    |refine db aE fun _=>?_|refine aC aE fun _=>?_|exact fp|refine db fp fun _=>?_|refine aC fp fun _=>?_
    |exact jG|refine db jG fun _=>?_|refine aC jG fun _=>?_|exact jF|refine db jF fun _=>?_|refine aC jF fun _=>?_
    |exact dk|refine db dk fun _=>?_|refine aC dk fun _=>?_|exact np|refine db np fun _=>?_|refine aC np fun _=>?_
    |split
theorem mm {C:Ctx} {o:Oper} {vs:List AV} {M:St} (hC:cE C):aj (iT C o vs M):=by
  unfold iT
  repeat' first
    |exact dF|exact c6|exact c7|exact dR _|exact cI _ _|exact c8 _ _ _|refine dC ?_|refine cM ?_|refine c9 ?_|exact mj|refine dd mj fun _ _=>?_
    |refine lI mj fun _ _=>?_|exact bz|refine db bz fun _=>?_|refine aC bz fun _=>?_|exact uY|exact f6|refine db f6 fun _=>?_
    |refine aC f6 fun _=>?_|exact jE|refine db jE fun _=>?_|refine aC jE fun _=>?_|exact ax|refine db ax fun _=>?_
    |refine aC ax fun _=>?_|exact fo|refine db fo fun _=>?_|refine aC fo fun _=>?_|exact ir|refine db ir fun _=>?_
    |refine aC ir fun _=>?_|exact nm|refine db nm fun _=>?_|refine aC nm fun _=>?_|exact bK _ _|refine db (bK _ _) fun _=>?_
    |refine aC (bK _ _) fun _=>?_|exact hC.pcall _ _|refine db (hC.pcall _ _) fun _=>?_|refine aC (hC.pcall _ _) fun _=>?_|split
theorem fQ {C:Ctx} {o:Oper} {vs:List AV} {M:St}:ah (oZ C o vs M):=by
  unfold oZ
  repeat' first
    |exact dF|exact c6|exact c7|exact dR _|exact cI _ _|exact c8 _ _ _|refine dC ?_|refine cM ?_|refine c9 ?_|exact aT|refine db aT fun _=>?_
    |refine aC aT fun _=>?_|exact jC|refine db jC fun _=>?_|refine aC jC fun _=>?_|split
theorem tg {P:Program} {t:TypeId} {l c:AV}:aj (mI P t l c):=by
  unfold mI
  refine dd ce fun _ _=>?_
  split
  · exact dR _
  · exact dF
theorem mn {C:Ctx} {o:Oper} {vs:List AV}:aj (x4 C o vs):=by
  unfold x4
  repeat' first
    |exact dF|exact c6|exact c7|exact dR _|exact cI _ _|exact c8 _ _ _|refine dC ?_|refine cM ?_|refine c9 ?_|exact qE|exact tg|split
theorem nq {C:Ctx} {o:Oper} {S:St}:aj (uK C o S):=by
  unfold uK
  repeat' first
    |exact dF|exact c6|exact c7|exact dR _|exact cI _ _|exact c8 _ _ _|refine dC ?_|refine cM ?_|refine c9 ?_|exact aw|refine db aw fun _=>?_
    |refine aC aw fun _=>?_|exact mn|refine db mn fun _=>?_|refine aC mn fun _=>?_|exact az|refine db az fun _=>?_
    |refine aC az fun _=>?_|split
theorem ge {C:Ctx} {pl:aD} {o:Oper} {S:St}:aj (uH C pl o S):=by
  unfold uH
  repeat' first
    |exact dF|exact c6|exact c7|exact dR _|exact cI _ _|exact c8 _ _ _|refine dC ?_|refine cM ?_|refine c9 ?_|exact aw|refine db aw fun _=>?_
    |refine aC aw fun _=>?_|exact ml|refine db ml fun _=>?_|refine aC ml fun _=>?_|exact az|refine db az fun _=>?_
    |refine aC az fun _=>?_|split
theorem gf {C:Ctx} {o:Oper} {S:St} (hC:cE C):aj (uI C o S):=by
  unfold uI
  repeat' first
    |exact dF|exact c6|exact c7|exact dR _|exact cI _ _|exact c8 _ _ _|refine dC ?_|refine cM ?_|refine c9 ?_|exact aw|refine db aw fun _=>?_
    |refine aC aw fun _=>?_|exact mm hC|refine db (mm hC) fun _=>?_|refine aC (mm hC) fun _=>?_|exact az|refine db az fun _=>?_
    |refine aC az fun _=>?_|split
theorem nr {C:Ctx} {o:Oper} {S:St}:aj (uJ C o S):=by
  unfold uJ
  repeat' first
    |exact dF|exact c6|exact c7|exact dR _|exact cI _ _|exact c8 _ _ _|refine dC ?_|refine cM ?_|refine c9 ?_|exact aw|refine db aw fun _=>?_
    |refine aC aw fun _=>?_|exact fQ|refine dd fQ fun _ _=>?_|refine lI fQ fun _ _=>?_|exact az|refine db az fun _=>?_
    |refine aC az fun _=>?_|split
theorem iN {C:Ctx} {pl:aD} {o:Oper} {S:St} (hC:cE C):aj (mJ C pl o S):=by
  unfold mJ
  repeat' first
    |exact dF|exact c6|exact c7|exact dR _|exact cI _ _|exact c8 _ _ _|refine dC ?_|refine cM ?_|refine c9 ?_|exact ar|refine db ar fun _=>?_
    |refine aC ar fun _=>?_|exact nk|refine db nk fun _=>?_|refine aC nk fun _=>?_|exact aS|refine db aS fun _=>?_
    |refine aC aS fun _=>?_|exact aT|refine db aT fun _=>?_|refine aC aT fun _=>?_|exact aw|refine db aw fun _=>?_
    |refine aC aw fun _=>?_|exact eE|refine db eE fun _=>?_|refine aC eE fun _=>?_|exact ae|refine db ae fun _=>?_
    |refine aC ae fun _=>?_|exact az|refine db az fun _=>?_|refine aC az fun _=>?_|exact ce|refine dd ce fun _ _=>?_
    |refine lI ce fun _ _=>?_|exact ft|refine db ft fun _=>?_|refine aC ft fun _=>?_|exact gG
    |refine dd gG fun _ _=>?_|refine lI gG fun _ _=>?_|exact ip|refine dd ip fun _ _=>?_|refine lI ip fun _ _=>?_
    |refine db tf fun _=>?_|exact k8|refine dd k8 fun _ _=>?_|refine lI k8 fun _ _=>?_|exact k9 hC|refine dd (k9 hC) fun _ _=>?_|refine lI (k9 hC) fun _ _=>?_
    |split
theorem ah.swap {α β:Type} {X:(α→β→Prop)→Prop} (h:ah X):ah (fun k:β→α→Prop=>X fun a b=>k b a):=fun k hk=>by
  obtain ⟨a,b,h1,h2⟩:=h _ hk
  exact ⟨b,a,h1,fun k' hk'=>h2 _ hk'⟩
theorem uZ {C:Ctx} {o:Oper} {vs:List AV} {M:St} (hC:cE C):ah (fK C o vs M):=by
  unfold fK
  split
  · exact ah.swap ce
  · split
    · refine ah.chk ?_
      refine ah.bind2 (hC.scall _ _ _) (fun _ _=>?_)
      exact ah.chk (ah.ret _ _)
    · exact ah.failN
  · exact fQ
theorem gH {S:St} {id:Nat}:aj (dK S id):=by
  unfold dK
  repeat' first
    |exact dF|exact c6|exact c7|exact dR _|exact cI _ _|exact c8 _ _ _|refine dC ?_|refine cM ?_|refine c9 ?_
    |exact ae|refine db ae fun _=>?_|refine aC ae fun _=>?_
    |exact (bd _ _)|refine db (bd _ _) fun _=>?_|refine aC (bd _ _) fun _=>?_
    |split
theorem eB:∀ (ids:List Nat) (S:St),aj (gp ids S)
  | [],_=>aj.ret _
  | id::ids,S=>by
    show aj (fun K=>dK S id fun S'=>gp ids S' K)
    exact aj.bind gH (fun S'=>eB ids S')
theorem iu {S:St} {id:Nat}:aj (eL S id):=by
  unfold eL
  split
  · exact aj.bind ae (fun _=>aj.ret _)
  · exact aj.bind ae (fun _=>aj.ret _)
  · exact aj.ret _
theorem kp:∀ (ids:List Nat) (S:St),aj (e9 ids S)
  | [],_=>aj.ret _
  | id::ids,S=>by
    show aj (fun K=>eL S id fun S'=>e9 ids S' K)
    exact aj.bind iu (fun S'=>kp ids S')
theorem iO {pl:aD} {id:Nat} {S:St}:aj (eG pl id S):=by
  unfold eG
  split
  · exact aj.ret _
  · refine aj.bind (eB _ _) (fun S1=>?_)
    split
    · exact aj.ret _
    · exact kp _ _
theorem c5 {S:St} {pk:Bool} {id i:Nat}:ah (cr S pk id i):=by
  unfold cr
  repeat' first
    |exact dF|exact c6|exact c7|exact dR _|exact cI _ _|exact c8 _ _ _|refine dC ?_|refine cM ?_|refine c9 ?_
    |exact ae|refine db ae fun _=>?_|refine aC ae fun _=>?_
    |refine aC co fun _=>?_
    |split
theorem qG {P:Program} {t:TypeId} {same pk:Bool} {S:St} {id i:Nat}:ah (dL P t same pk S id i):=by
  unfold dL
  repeat' first
    |exact dF|exact c6|exact c7|exact dR _|exact cI _ _|exact c8 _ _ _|refine dC ?_|refine cM ?_|refine c9 ?_
    |exact bz|refine db bz fun _=>?_|refine aC bz fun _=>?_
    |exact c5|refine dd c5 fun _ _=>?_|refine lI c5 fun _ _=>?_
    |split
theorem oJ {P:Program} {t:TypeId} {S:St} {id i:Nat} {v:AV}:aj (cV P t S id i v):=by
  unfold cV
  repeat' first
    |exact dF|exact c6|exact c7|exact dR _|exact cI _ _|exact c8 _ _ _|refine dC ?_|refine cM ?_|refine c9 ?_
    |exact ae|refine db ae fun _=>?_|refine aC ae fun _=>?_
    |split
theorem qH {P:Program} {t:TypeId} {nw:Bool} {j:Nat} {l c:AV} {S:St}:ah (dh P nw j t l c S):=by
  unfold dh
  repeat' first
    |exact dF|exact c6|exact c7|exact dR _|exact cI _ _|exact c8 _ _ _|refine dC ?_|refine cM ?_|refine c9 ?_
    |exact dw|refine db dw fun _=>?_|refine aC dw fun _=>?_
    |exact ae|refine db ae fun _=>?_|refine aC ae fun _=>?_
    |exact ax|refine db ax fun _=>?_|refine aC ax fun _=>?_
    |exact ar|refine db ar fun _=>?_|refine aC ar fun _=>?_
    |split
theorem l8 {P:Program} {t:TypeId} {S:St}:ah (cL P t S):=by
  unfold cL
  repeat' first
    |exact dF|exact c6|exact c7|exact dR _|exact cI _ _|exact c8 _ _ _|refine dC ?_|refine cM ?_|refine c9 ?_
    |exact ae|refine db ae fun _=>?_|refine aC ae fun _=>?_
    |split
theorem qI {P:Program} {t:TypeId} {m key:AV} {ok:Bool} {S:St}:ah (dM P t m key ok S):=by
  unfold dM
  repeat' first
    |exact dF|exact c6|exact c7|exact dR _|exact cI _ _|exact c8 _ _ _|refine dC ?_|refine cM ?_|refine c9 ?_
    |exact cy|refine db cy fun _=>?_|refine aC cy fun _=>?_
    |exact b8|refine db b8 fun _=>?_|refine aC b8 fun _=>?_
    |exact bB|refine dd bB fun _ _=>?_|refine lI bB fun _ _=>?_
    |exact c5|refine dd c5 fun _ _=>?_|refine lI c5 fun _ _=>?_
    |split
theorem lJ {P:Program} {t:TypeId} {m key x:AV} {S:St}:aj (ej P t m key x S):=by
  unfold ej
  repeat' first
    |exact dF|exact c6|exact c7|exact dR _|exact cI _ _|exact c8 _ _ _|refine dC ?_|refine cM ?_|refine c9 ?_
    |exact ae|refine db ae fun _=>?_|refine aC ae fun _=>?_
    |exact bB|refine dd bB fun _ _=>?_|refine lI bB fun _ _=>?_
    |split
theorem pH {M:St} {x:AV} {X:Nat→Nat→(AV→St→Prop)→Prop} (h:∀ id i,ah (X id i)):ah (fun k=>dZ M x fun id i=>X id i k):=by
  unfold dZ
  split
  · split
    · exact h _ _
    · exact ah.failN
  · exact ah.failN
theorem nt {P:Program} {pl:aD} {o:Oper} {vs:List AV} {M:St}:ah (fF P pl o vs M):=by
  unfold fF
  split
  · exact pH fun _ _=>qG
  · exact pH fun _ _=>aj.bind2 oJ (fun _=>ah.ret _ _)
  · exact qH
  · exact l8
  · exact qI
  · exact aj.bind2 lJ (fun _=>ah.ret _ _)
  · exact aj.bind2 lJ (fun _=>ah.ret _ _)
  · exact ah.failN
theorem rV {C:Ctx} {pl:aD} {o:Oper} {S:St}:aj (qc C pl o S):=by
  unfold qc
  exact aj.bind aw (fun _=>ah.bind nt (fun _ _=>az))
theorem rW {C:Ctx} {pl:aD} {o:Oper} {vs:List AV} {M:St} (hC:cE C):ah (gq C pl o vs M):=by
  unfold gq
  split
  · exact nt
  · exact uZ hC
theorem k_ {C:Ctx} {pl:aD} {o:Oper} {S:St} (hC:cE C):aj (iX C pl o S):=by
  unfold iX
  exact aj.bind aw (fun _=>ah.bind (rW hC) (fun _ _=>az))
theorem dn {C:Ctx} {pl:aD} {o:Oper} {S:St} (hC:cE C):aj (oe C pl o S):=by
  unfold oe
  repeat' first
    |exact dF|exact c6|exact c7|exact dR _|exact cI _ _|exact c8 _ _ _|refine dC ?_|refine cM ?_|refine c9 ?_|exact ge|refine db ge fun _=>?_
    |refine aC ge fun _=>?_|exact gf hC|refine db (gf hC) fun _=>?_|refine aC (gf hC) fun _=>?_|exact k_ hC|refine db (k_ hC) fun _=>?_
    |refine aC (k_ hC) fun _=>?_|exact nq|refine db nq fun _=>?_|refine aC nq fun _=>?_|exact az|refine db az fun _=>?_
    |refine aC az fun _=>?_|exact iN hC|refine db (iN hC) fun _=>?_|refine aC (iN hC) fun _=>?_|split
theorem rX {C:Ctx} {pl:aD} {o:Oper} {S:St} (hC:cE C):aj (qd C pl o S):=by
  unfold qd
  repeat' first
    |exact dF|exact c6|exact c7|exact dR _|exact cI _ _|exact c8 _ _ _|refine dC ?_|refine cM ?_|refine c9 ?_|exact ge|refine db ge fun _=>?_
    |refine aC ge fun _=>?_|exact gf hC|refine db (gf hC) fun _=>?_|refine aC (gf hC) fun _=>?_|exact nr|refine db nr fun _=>?_
    |refine aC nr fun _=>?_|exact iN hC|refine db (iN hC) fun _=>?_|refine aC (iN hC) fun _=>?_|split
theorem xd {C:Ctx} {pl:aD} {o:Oper} {S:St} (hC:cE C):aj (wU C pl o S):=by
  unfold wU
  split
  · exact rV
  · exact rX hC
theorem gg {C:Ctx} {pl:aD} {o:Oper} {S:St} (hC:cE C):aj (sR C pl o S):=by
  unfold sR
  split
  · exact db aw fun _=>dC (dd (hC.ycall _ _ _) fun _ _=>dd (bN _ _ _) fun _ _=>az)
  · exact xd hC
theorem bI {d:Nat} {S:St}:ah (cW d S):=by
  unfold cW
  repeat' first
    |exact dF|exact c6|exact c7|exact dR _|exact cI _ _|exact c8 _ _ _|refine dC ?_|refine cM ?_|refine c9 ?_|refine aj.fork ?_ ?_|refine ah.fork ?_ ?_
    |exact dk|refine db dk fun _=>?_|refine aC dk fun _=>?_|exact eA|refine db eA fun _=>?_|refine aC eA fun _=>?_
    |split
theorem nu {C:Ctx} {pl:aD} {all:Array Oper} {o:Oper} {S:St} (hC:cE C):aj (jl C pl all o S):=by
  unfold jl
  repeat' first
    |exact dF|exact c6|exact c7|exact dR _|exact cI _ _|exact c8 _ _ _|refine dC ?_|refine cM ?_|refine c9 ?_|exact dn hC|refine db (dn hC) fun _=>?_
    |refine aC (dn hC) fun _=>?_|split
theorem v6 {C:Ctx} {pl:aD} {all:Array Oper} {o:Oper} {S:St} (hC:cE C):aj (ag C pl all o S):=by
  unfold ag
  repeat' first
    |exact dF|exact c6|exact c7|exact dR _|exact cI _ _|exact c8 _ _ _|refine dC ?_|refine cM ?_|refine c9 ?_|exact nu hC|refine db (nu hC) fun _=>?_
    |refine aC (nu hC) fun _=>?_|exact bI|refine dd bI fun _ _=>?_|refine lI bI fun _ _=>?_|exact az|refine db az fun _=>?_
    |refine aC az fun _=>?_|exact dn hC|refine db (dn hC) fun _=>?_|refine aC (dn hC) fun _=>?_|refine aj.gsel ?_ ?_|split
theorem fu {C:Ctx} {pl:aD} {all:Array Oper} (hC:cE C):∀ (os:List Oper) (S:St),aj (kM C pl all os S)
  | [],S=>by
    show aj (fun K=>kM C pl all [] S K)
    unfold kM
    repeat' first
      | exact aj.failN
      | exact ah.failN
      | exact a4.failN
      | exact aj.ret _
      | exact ah.ret _ _
      | exact a4.ret _ _ _
      | refine aj.chk ?_
      | refine ah.chk ?_
      | refine a4.chk ?_
      | exact fu hC _ _
      | refine db (fu hC _ _) fun _=>?_
      | refine aC (fu hC _ _) fun _=>?_
      | exact gg hC
      | refine db (gg hC) fun _=>?_
      | refine aC (gg hC) fun _=>?_
      | exact bI
      | refine dd bI fun _ _=>?_
      | refine lI bI fun _ _=>?_
      | exact az
      | refine db az fun _=>?_
      | refine aC az fun _=>?_
      | refine aj.gsel ?_ ?_
      | split
  | x::xs,S=>by
    show aj (fun K=>kM C pl all (x::xs) S K)
    unfold kM
    repeat' first
      | exact aj.failN
      | exact ah.failN
      | exact a4.failN
      | exact aj.ret _
      | exact ah.ret _ _
      | exact a4.ret _ _ _
      | refine aj.chk ?_
      | refine ah.chk ?_
      | refine a4.chk ?_
      | exact fu hC _ _
      | refine db (fu hC _ _) fun _=>?_
      | refine aC (fu hC _ _) fun _=>?_
      | exact gg hC
      | refine db (gg hC) fun _=>?_
      | refine aC (gg hC) fun _=>?_
      | exact bI
      | refine dd bI fun _ _=>?_
      | refine lI bI fun _ _=>?_
      | exact az
      | refine db az fun _=>?_
      | refine aC az fun _=>?_
      | refine aj.gsel ?_ ?_
      | split
theorem dS:∀ (xs:List (Nat×TypeId)) (P:Program) (S:St),aj (qf P xs S)
  | [],P,S=>by
    show aj (fun K=>qf P [] S K)
    unfold qf
    repeat' first
      | exact aj.failN
      | exact ah.failN
      | exact a4.failN
      | exact aj.ret _
      | exact ah.ret _ _
      | exact a4.ret _ _ _
      | refine aj.chk ?_
      | refine ah.chk ?_
      | refine a4.chk ?_
      | exact dS _ _ _
      | refine db (dS _ _ _) fun _=>?_
      | refine aC (dS _ _ _) fun _=>?_
      | exact ar
      | refine db ar fun _=>?_
      | refine aC ar fun _=>?_
      | split
  | (d,e)::xs,P,S=>by
    show aj (fun K=>qf P ((d,e)::xs) S K)
    unfold qf
    repeat' first
      | exact aj.failN
      | exact ah.failN
      | exact a4.failN
      | exact aj.ret _
      | exact ah.ret _ _
      | exact a4.ret _ _ _
      | refine aj.chk ?_
      | refine ah.chk ?_
      | refine a4.chk ?_
      | exact dS _ _ _
      | refine db (dS _ _ _) fun _=>?_
      | refine aC (dS _ _ _) fun _=>?_
      | exact ar
      | refine db ar fun _=>?_
      | refine aC ar fun _=>?_
      | split
theorem nv {P:Program} {xs:List (Nat×TypeId)} {S:St}:aj (ot P xs S):=by
  unfold ot
  repeat' first
    |exact dF|exact c6|exact c7|exact dR _|exact cI _ _|exact c8 _ _ _|refine dC ?_|refine cM ?_|refine c9 ?_|exact cp _ _|refine db (cp _ _) fun _=>?_
    |refine aC (cp _ _) fun _=>?_|exact dS _ _ _|refine db (dS _ _ _) fun _=>?_|refine aC (dS _ _ _) fun _=>?_|split
theorem gh:∀ {xs:List (Nat×TypeId)} {S:St} {X:Prop},e_ xs S X→X∧∀ X',X'→e_ xs S X'
  | [],_,_,h=>⟨h,fun _ h=>h⟩
  | (d,e)::xs,S,X,h=>by
    obtain ⟨a,h1,h2⟩:=aY.1 h
    split at h2
    · rename_i d' i j
      obtain ⟨hb,h2⟩:=ab h2
      obtain ⟨h3,h4⟩:=gh h2
      refine ⟨h3,fun X' h=>aY.2 ⟨_,h1,?_⟩⟩
      exact af hb (h4 X' h)
    · exact False.elim h2
theorem cH {C:Ctx} (hC:cE C) {pl:aD} {ops:Array Oper} {i:Nat} {S:St}:aj (o5 C pl ops i S):=by
  show aj (fun K:St→Prop=>o5 C pl ops i S K)
  unfold o5
  split
  · exact aj.failN
  · exact v6 hC
theorem u4 {S2 S1:St} {X:(St→Prop)→Prop} (h:aj X):aj (fun K=>ln S2 S1 (X K)):=by
  unfold ln
  split
  · exact h
  · exact fun K hk=>by
      obtain ⟨r,h1,h2⟩:=h K hk.2
      exact ⟨r,h1,fun K' hk'=>⟨hk.1,h2 K' hk'⟩⟩
theorem rY {go:Nat→(St→Prop)→Prop} (hg:∀ i,aj (go i)):∀ (is:List Nat) (S1:St),aj (fun K:St→Prop=>sV go is S1 (K S1))
  | [],S1=>aj.ret S1
  | i::is,S1=>by
    show aj (fun K:St→Prop=>go i fun S2=>ln S2 S1 (sV go is S1 (K S1)))
    exact aj.bind (hg i) (fun S2=>u4 (rY hg is S1))
theorem cu {C:Ctx} (hC:cE C) {pl:aD} {ops:Array Oper} {ws:List Nat}:∀ (n:Nat) (listed:Array Bool) (S:St),aj (ev C pl ops ws n listed S)
  | 0,listed,S=>by
    show aj (fun K:St→Prop=>ev C pl ops ws 0 listed S K)
    unfold ev
    split
    · exact aj.ret S
    · exact aj.failN
  | n + 1,listed,S=>by
    show aj (fun K:St→Prop=>ev C pl ops ws (n + 1) listed S K)
    unfold ev
    split
    · exact aj.ret S
    · split
      · exact aj.bind (cH hC) (fun S'=>cu hC n _ S')
      · refine aj.bind (cH hC) (fun S'=>aj.bind (cu hC n _ S') (fun S1=>?_))
        exact rY (fun i=>aj.bind (cH hC) (fun S'=>cu hC n _ S')) _ S1
theorem rZ {C:Ctx} (hC:cE C) {pl:aD} {ops:Array Oper} {ws:List Nat}:∀ (n:Nat) (listed:Array Bool) (S:St),aj (lY C pl ops ws n listed S)
  | 0,listed,S=>cu (pl:=pl) (ws:=ws) hC 0 listed S
  | n + 1,listed,S=>by
    show aj (fun K:St→Prop=>lY C pl ops ws (n + 1) listed S K)
    unfold lY
    split
    · exact aj.bind (cH hC) (fun S'=>rZ hC n _ S')
    · exact cu hC _ _ _
theorem nx {C:Ctx} (hC:cE C) {pl:aD} {ops:Array Oper} {S:St}:aj (oq C pl ops S):=by
  show aj (fun K:St→Prop=>oq C pl ops S K)
  unfold oq
  refine aj.chk ?_
  split
  · exact cu hC _ _ _
  · exact rZ hC _ _ _
theorem ti {C:Ctx} (hC:cE C) {pl:aD} {g:Operand} {ps:Array Tmp} {asg body:Code} {S:St}:ah (hJ C pl g ps asg body S):=by
  show ah (fun K=>hJ C pl g ps asg body S K)
  unfold hJ
  split
  · exact ah.failN
  · refine aC aS fun gv=>?_
    split
    · refine cM (aC (.of_iff fun _=>ch) fun t0=>lI (hC.scall _ _ _) fun _ o'=>lI (bN _ _ _) fun t l=>?_)
      split
      · refine aC (bd _ _) fun S'=>?_
        split
        · exact cI _ _
        · exact cI _ _
        · exact cI _ _
      · exact ah.failN
    · exact ah.failN
theorem gi {C:Ctx} (hC:cE C) {pl:aD}:∀ (c:Code) {S:St},ah (cF C pl c S):=by
  intro c
  induction c with
  | skip=>exact ah.ret Ex.nrm _
  | region id ops draw =>
    intro S
    cases draw with
    | false =>
      show ah (fun (K:Ex→St→Prop)=>kM C pl ops ops.toList S fun S'=>eG pl id S' fun S''=>K .nrm S'')
      exact aj.bind2 (fu hC _ _) (fun S'=>aj.bind2 iO (fun S''=>ah.ret Ex.nrm S''))
    | true =>
      show ah (fun (K:Ex→St→Prop)=>aB (lq pl ops) (ot C.P (a7 ops.toList) S fun S1=>oq C pl ops S1 fun S'=>e_ (a7 ops.toList) S' (eG pl id S' fun S''=>K .nrm S'')))
      refine ah.chk (aj.bind2 nv (fun S1=>aj.bind2 (nx hC) (fun S'=>?_)))
      intro K h
      obtain ⟨h1,h2⟩:=gh h
      obtain ⟨S'',h3,h4⟩:=iO _ h1
      exact ⟨_,_,h3,fun K' hk=>h2 _ (h4 _ hk)⟩
  | seq x y ihx ihy =>
    intro S
    show ah (fun (K:Ex→St→Prop)=>cF C pl x S fun e S'=>match e with
      | .nrm=>cF C pl y S' K
      | .ex i=>K (.ex i) S'
      | .ret=>K .ret S')
    refine ah.bind2 ihx (fun e S'=>?_)
    cases e with
    | nrm=>exact ihy
    | ex i=>exact ah.ret _ _
    | ret=>exact ah.ret _ _
  | cond c x y ihx ihy =>
    intro S
    show ah (fun (K:Ex→St→Prop)=>gX c S fun b S'=>match b with
      | true=>cF C pl x S' K
      | false=>cF C pl y S' K)
    refine ah.bind2 te (fun b S'=>?_)
    cases b with
    | true=>exact ihx
    | false=>exact ihy
  | block id c ih =>
    intro S
    show ah (fun (K:Ex→St→Prop)=>cF C pl c S fun e S'=>match e with
      | .ex i=>match Nat.beq i id with | true=>K .nrm S' | false=>K (.ex i) S'
      | .nrm=>K .nrm S'
      | .ret=>K .ret S')
    refine ah.bind2 ih (fun e S'=>?_)
    cases e with
    | nrm=>exact ah.ret _ _
    | ret=>exact ah.ret _ _
    | ex i =>
      show ah (fun (K:Ex→St→Prop)=>match Nat.beq i id with | true=>K .nrm S' | false=>K (.ex i) S')
      split
      · exact ah.ret _ _
      · exact ah.ret _ _
  | loop c ih=>exact hC.loop _ _ _
  | exit id=>exact ah.ret (Ex.ex id) _
  | ret=>exact ah.ret Ex.ret _
  | rangeFunc g ps asg body=>exact fun {S}=>ti hC
  | _=>exact fun K h=>False.elim h
theorem ny {P:Program} {S:St}:∀ {rs:List ResultVar},aj (lZ P S rs)
  | []=>aj.ret _
  | .tmp t::rs=>by
    show aj (fun K=>ji S.t t fun a=>lZ P S rs fun as=>K (a::as))
    exact aj.bind dk (fun a=>aj.bind ny (fun as=>aj.ret (a::as)))
  | .cell c t::rs=>by
    show aj (fun K=>ji S.t c fun p=>vC S p fun row j=>dJ P t row j fun x=>lZ P S rs fun as=>K (x::as))
    exact aj.bind dk (fun a=>ah.bind mj (fun row j=>aj.bind bz (fun x=>aj.bind ny (fun as=>aj.ret (x::as)))))
theorem v7 {as:List AV}:aj (ou as):=by
  unfold ou
  split <;> exact aj.ret _
theorem pI {C:Ctx} (hC:cE C) {f:Nat} {args:List AV} {o:List Ob}:ah (lr C f args o):=by
  show ah (fun K:AV→St→Prop=>lr C f args o K)
  have e:(fun K:AV→St→Prop=>lr C f args o K)=fun K=>mM C f args o K:=by funext K; exact propext pG
  rw [e]
  unfold mM
  split
  · rename_i fn _
    have resDet:∀ {S:St},ah (fun K:AV→St→Prop=>lZ C.P S fn.results.toList fun rs=>ou rs fun r=>K r S):=fun {S}=>aj.bind2 ny (fun rs=>aj.bind2 v7 (fun r=>ah.ret r S))
    split
    · have e2:∀ (p:aD) (k:aD→(AV→St→Prop)→Prop),(fun K=>sW p fun pl=>k pl K)=fun K=>k p K:=fun p k=>by funext K; exact propext nh
      rw [e2]
      refine ah.bind2 (gi hC _) (fun e S=>?_)
      cases e with
      | ex i=>exact ah.failN
      | nrm=>exact resDet
      | ret=>exact resDet
    · exact ah.failN
  · exact ah.failN
theorem lb {C:Ctx} (hC:cE C) {f:Nat} {args:List AV}:aj (jY C f args):=ah.bind (pI hC) (fun _ _=>fq)
theorem nz {C:Ctx} (hC:cE C) {f:Nat} {args:List AV} {o:List Ob}:ah (kO C f args o):=by
  show ah (fun (K:AV→List Ob→Prop)=>lr C f args o fun r S=>aB (jU 4 r&&Nat.beq S.b o.length) (K r S.o))
  exact ah.bind2 (pI hC) (fun _ _=>ah.chk (ah.ret _ _))
structure yK (cfg:iU):Prop where
  sound:∀ f args o K,cfg.xc f args o K→i4 cfg.P f args o K
  det:∀ f args o,ah (cfg.xc f args o)
  pure:∀ f args r,cfg.xq f args=some r→qp cfg.P f args r
theorem yK.none {cfg:iU} (h:cfg.xc=fun _ _ _ _=>False) (hq:cfg.xq=fun _ _=>none):yK cfg:=⟨fun f args o K hk=>(by rw [h] at hk; exact hk.elim),fun f args o=>(by rw [h]; exact ah.failN (n:=0)),fun f args r e=>(by rw [hq] at e; cases e)⟩
theorem tj {C:Ctx} (hC:cE C) {id:Nat} {args:List AV} {o:List Ob}:ah (fX C id args o):=by
  show ah (fun K=>fX C id args o K)
  unfold fX
  split
  · refine cM (aC aH fun t1=>aC aH fun as=>aC bT fun o0=>aC ae fun o1=>ah.bind2 (gi hC _) fun e S=>?_)
    cases e with
    | ex i=>exact ah.failN
    | ret=>exact ah.failN
    | nrm =>
      refine ah.bind2 (gi hC _) fun e2 S2=>cM ?_
      split
      · exact ah.bind2 (bN _ _ _) fun _ _=>aC ae fun _=>cI _ _
      · exact ah.failN
  · exact ah.failN
theorem fw {cfg:iU} (hX:yK cfg):∀ n,cE (cg cfg n)
  | 0=>⟨fun _ _=>aj.failN (n:=123),fun _ _ _=>ah.failN (n:=124),fun _ _ _=>ah.failN (n:=125),fun _ _ _=>ah.failN (n:=0)⟩
  | n + 1=>⟨fun f args=>by
      show aj fun K=>match cfg.xq f args with | some r=>K r | none=>jY (cg cfg n) f args K
      cases cfg.xq f args with
      | some r=>exact aj.ret r
      | none=>exact lb (fw hX n),fun f args o=>by
      show ah fun K=>match cfg.xs f with | true=>cfg.xc f args o K | false=>kO (cg cfg n) f args o K
      cases cfg.xs f with
      | true=>exact hX.det _ _ _
      | false=>exact nz (fw hX n),fun pl c S=>by
      have e0:(fun (K:Ex→St→Prop)=>gr (cg cfg n) fun C=>cF C pl c S fun e S'=>match e with
        | .nrm=>C.loop pl c S' K
        | .ex i=>K (.ex i) S'
        | .ret=>K .ret S')=fun K=>cF (cg cfg n) pl c S fun e S'=>match e with
        | .nrm=>(cg cfg n).loop pl c S' K
        | .ex i=>K (.ex i) S'
        | .ret=>K .ret S':=by funext K; exact propext fk
      show ah (fun (K:Ex→St→Prop)=>gr (cg cfg n) fun C=>cF C pl c S fun e S'=>match e with
        | .nrm=>C.loop pl c S' K
        | .ex i=>K (.ex i) S'
        | .ret=>K .ret S')
      rw [e0]
      refine ah.bind2 (gi (fw hX n) c) (fun e S'=>?_)
      cases e with
      | nrm=>exact (fw hX n).loop _ _ _
      | ex i=>exact ah.ret _ _
      | ret=>exact ah.ret _ _,fun id args o=>by
      have e0:(fun (K:AV→List Ob→Prop)=>gr (cg cfg n) fun C=>fX C id args o K)=fun K=>fX (cg cfg n) id args o K:=by funext K; exact propext fk
      show ah (fun (K:AV→List Ob→Prop)=>gr (cg cfg n) fun C=>fX C id args o K)
      rw [e0]
      exact tj (fw hX n)⟩
theorem nB {cfg:iU} (hX:yK cfg) (n:Nat):ni (cg cfg n):=fun f args K h=>by
  obtain ⟨r,h1,h2⟩:=lb (fw hX n) K h
  exact ⟨r,h1,h2 _ rfl⟩
def dU (S:St) (dst:Option Tmp) (v:AV) (m:Option St):St :=
  fa (match m with | none=>S | some M=>cq S M) dst v
def eJ (S S2:St):Prop:=S2.l=S.l∧S2.o=S.o∧S2.b=S.b
theorem eJ.refl (S:St):eJ S S:=⟨rfl,rfl,rfl⟩
theorem eJ.symm {S S2:St} (h:eJ S S2):eJ S2 S:=⟨h.1.symm,h.2.1.symm,h.2.2.symm⟩
theorem eJ.trans {S S2 S3:St} (h:eJ S S2) (k:eJ S2 S3):eJ S S3:=⟨k.1.trans h.1,k.2.1.trans h.2.1,k.2.2.trans h.2.2⟩
def iv (xs:List Operand) (S S2:St):Prop:=∀ d,Operand.tmp d∈xs→S2.t[d]?=S.t[d]?
theorem tk {S S2:St} {x:Operand} {k:AV→Prop} (h:a_ S x k) (ha:∀ d,x=.tmp d→S2.t[d]?=S.t[d]?):a_ S2 x k:=by
  unfold a_ at *
  split at h
  · rename_i d
    obtain ⟨c,hc,hk⟩:=aY.1 h
    exact aY.2 ⟨c,by rw [ha d rfl]; exact hc,hk⟩
  · exact h
  · exact h
  · exact h
theorem dE {S S2:St}:∀ {xs:List Operand} {k:List AV→Prop},bC S xs k→iv xs S S2→bC S2 xs k
  | [],_,h,_=>h
  | x::xs,k,h,ha=>by
    obtain ⟨c,h1,h2⟩:=aS _ h
    have hx:a_ S2 x fun a=>bC S2 xs fun as=>k (a::as):=by
      refine tk (S:=S) (h2 _ ?_) (fun d e=>ha d (by rw [← e]; exact List.mem_cons_self))
      exact dE h1 (fun d hd=>ha d (List.mem_cons_of_mem _ hd))
    exact hx
def Looks (site:Option Nat) (S S2:St):Prop :=
  match site with
  | some r=>ap S2.l r=ap S.l r
  | none=>S2.o=S.o
def kq (site:Option Nat) (S M:St):Prop :=
  match site with
  | some r'=>M.o=S.o∧∀ r,r≠r'→ap M.l r=ap S.l r
  | none=>M.l=S.l
theorem Looks.of {site:Option Nat} {S S2:St} (h:eJ S S2):Looks site S S2:=by
  cases site with
  | some r=>show ap S2.l r=_; rw [h.1]
  | none=>exact h.2.1
theorem Looks.symm {site:Option Nat} {S S2:St} (h:Looks site S S2):Looks site S2 S:=by
  cases site with
  | some r=>exact Eq.symm h
  | none=>exact Eq.symm h
theorem Looks.trans {site:Option Nat} {S S2 S3:St} (h:Looks site S S2) (k:Looks site S2 S3):Looks site S S3:=by
  cases site with
  | some r=>exact Eq.trans k h
  | none=>exact Eq.trans k h
def l9 (pl:aD) (ops:Array Oper) (o:Oper) (S S2:St):Prop :=
  (cC pl o=1→Looks (cD pl ops o) S S2)∧(cC pl o=2→eJ S S2)
theorem l9.of {pl:aD} {ops:Array Oper} {o:Oper} {S S2:St} (h:eJ S S2):l9 pl ops o S S2:=⟨fun _=>.of h,fun _=>h⟩
def l_ (pl:aD) (ops:Array Oper) (o:Oper) (S:St) (m:Option St):Prop :=
  (cC pl o≠2→m=none)∧∀ M,m=some M→kq (cD pl ops o) S M
def zF (C:Ctx) (pl:aD) (ops:Array Oper) (o:Oper) (S:St) (v:AV) (m:Option St):Prop :=
  l_ pl ops o S m∧∀ S2,iv o.op.operands.toList S S2→l9 pl ops o S S2→∀ K2:St→Prop,K2 (dU S2 o.dst v m)→jl C pl ops o S2 K2
theorem r4 {S S2:St} (h:eJ S S2):bp S2=bp S:=by
  unfold bp
  rw [h.1,h.2.1,h.2.2]
theorem tl {o:Oper} {t:Nat} (h:addrOf o=some t):Operand.tmp t∈o.op.operands.toList:=by
  unfold addrOf at h
  split at h
  · rename_i ty x ho
    cases h
    rw [ho]
    simp [Op.operands]
  · rename_i ty x y ho
    cases h
    rw [ho]
    simp [Op.operands]
  · cases h
theorem qJ {pl:aD} {ops:Array Oper} {o:Oper} {S S2:St} (ha:iv o.op.operands.toList S S2):d7 pl ops o S2=d7 pl ops o S:=by
  unfold d7
  cases ht:addrOf o with
  | none=>rfl
  | some t =>
    dsimp only
    rw [ha t (tl ht)]
theorem jH {pl:aD} {ops:Array Oper} {o:Oper} {S:St} {t:Nat} (h:d7 pl ops o S=true) (ht:addrOf o=some t):∃ c,S.t[t]?=some c∧g8 c (cD pl ops o)=true:=by
  unfold d7 at h
  rw [ht] at h
  dsimp only at h
  split at h
  · rename_i c hc
    exact ⟨c,hc,h⟩
  · cases h
theorem iw {c:AV} {r:Nat} (h:g8 c (some r)=true):∃ i j,c=.ptr (.L r) i j:=by
  unfold g8 at h
  split at h
  · rename_i d i j r' hr
    cases hr
    have:=Nat.eq_of_beq_eq_true h
    subst this
    exact ⟨i,j,rfl⟩
  · rename_i hr; cases hr
  · rename_i hr; cases hr
  · cases h
theorem lK {c:AV} (h:g8 c none=true):(∃ id i j,c=.ptr (.O id) i j)∨∃ row j,c=.fptr row j:=by
  unfold g8 at h
  split at h
  · rename_i hr; cases hr
  · rename_i id i j _; exact .inl ⟨id,i,j,rfl⟩
  · rename_i row j _; exact .inr ⟨row,j,rfl⟩
  · cases h
theorem v8 {C:Ctx} {o:Oper} {ty:TypeId} {x:Operand} (ho:o.op=.load ty x) {r i j:Nat} {M M2:St} (h:ap M2.l r=ap M.l r) {k:AV→Prop} (hk:iT C o [.ptr (.L r) i j] M k):iT C o [.ptr (.L r) i j] M2 k:=by
  unfold iT at hk ⊢
  rw [ho] at hk ⊢
  unfold vC om at hk ⊢
  dsimp only at hk ⊢
  rw [h]
  exact hk
theorem pJ {C:Ctx} {o:Oper} {ty:TypeId} {x:Operand} (ho:o.op=.load ty x) {c:AV} (hc:g8 c none=true) {M M2:St} (h:M2.o=M.o) {k:AV→Prop} (hk:iT C o [c] M k):iT C o [c] M2 k:=by
  unfold iT at hk ⊢
  rw [ho] at hk ⊢
  rcases lK hc with ⟨id,i,j,rfl⟩ | ⟨row,j,rfl⟩
  · unfold vC om at hk ⊢
    dsimp only at hk ⊢
    rw [h]
    exact hk
  · exact hk
theorem xe {size:Nat} {x:AV} {S S2:St} (h:S2.o=S.o) {k:Bool→List (List AV)→Prop}:eq size S x k→eq size S2 x k:=by
  obtain ⟨t,l,oo,b⟩:=S
  obtain ⟨t2,l2,oo2,b2⟩:=S2
  have h':oo2=oo:=h
  subst h'
  unfold eq
  split <;> exact fun h=>h
theorem r5 {P:Program} {src dst:TypeId} {x:AV} {S S2:St} (h:S2.o=S.o) {k:AV→Prop}:cw P src dst x S k→cw P src dst x S2 k:=by
  unfold cw
  split
  · split
    · intro hk
      obtain ⟨h1,h2⟩:=ab hk
      exact af h1 (xe h h2)
    · exact fun h=>h
  · exact fun h=>h
theorem yU {C:Ctx} {o:Oper} (ho:∀ ty x,o.op≠.load ty x) {vs:List AV} {M M2:St} (h:M2.o=M.o) {k:AV→Prop}:iT C o vs M k→iT C o vs M2 k:=by
  obtain ⟨t,l,oo,b⟩:=M
  obtain ⟨t2,l2,oo2,b2⟩:=M2
  have h':oo2=oo:=h
  subst h'
  unfold iT
  split
  all_goals first
    | exact fun h=>h
    | exact r5 rfl
    | (exfalso; rename_i h1; exact ho _ _ h1)
    | (exfalso; rename_i h1 _; exact ho _ _ h1)
theorem nC {S:St} {g:Nat} {xs:List Operand} {k:List AV→Prop} (h:bC S (.global g::xs) k):∃ row,bC S xs fun as=>k (.fptr row 0::as):=by
  have h':a_ S (.global g) fun a=>bC S xs fun as=>k (a::as):=h
  cases hg:xX g with
  | none=>simp only [a_,hg] at h'; exact False.elim h'
  | some row=>simp only [a_,hg] at h'; exact ⟨row,h'⟩
theorem pK {S:St} {t:Nat} {k:List AV→Prop} {a:AV} (ha:S.t[t]?=some a) (h:bC S [.tmp t] k):k [a]:=by
  obtain ⟨c,hc,h⟩:=aY.1 h
  rw [ha] at hc
  cases hc
  exact h
theorem pL {S:St} {t:Nat} {y:Operand} {k:List AV→Prop} {a:AV} (ha:S.t[t]?=some a) (h:bC S [.tmp t,y] k):∃ b,k [a,b]:=by
  obtain ⟨c,hc,h⟩:=aY.1 h
  rw [ha] at hc
  cases hc
  obtain ⟨b,h1,_⟩:=aS _ h
  exact ⟨b,h1⟩
theorem v9 {C:Ctx} {o:Oper} {c:AV} {site:Option Nat} {y:AV} {M:St} {k:AV→St→Prop} (hs:g8 c site=true) (h:oZ C o [c,y] M k):oZ C o [c,y] M fun v M'=>k v M'∧kq site M M':=by
  obtain ⟨v,M',h1,h2⟩:=fQ _ h
  refine h2 _ ⟨h1,?_⟩
  have h3:=h2 (fun _ M''=>M''=M') rfl
  unfold oZ at h3
  split at h3
  · rename_i ty X Y p z ho e
    cases e
    obtain ⟨cs,h4,_⟩:=aT _ h3
    split at h4
    · obtain ⟨_,h4⟩:=ab h4
      cases site with
      | some r' =>
        obtain ⟨i,j,rfl⟩:=iw hs
        unfold fV at h4
        dsimp only at h4
        split at h4
        · rename_i row hrow
          split at h4
          · obtain ⟨_,h4⟩:=ab h4
            rw [bM,dN] at h4
            subst h4
            refine ⟨rfl,fun r hr=>?_⟩
            show ap (jV M.l r' _) r=_
            rw [ea hrow,if_neg (fun e=>hr e.symm)]
          · exact False.elim h4
        · exact False.elim h4
      | none =>
        rcases lK hs with ⟨id,i,j,rfl⟩ | ⟨row,j,rfl⟩
        · unfold fV at h4
          dsimp only at h4
          split at h4
          · split at h4
            · obtain ⟨_,h4⟩:=ab h4
              rw [bM,ak] at h4
              subst h4
              rfl
            · exact False.elim h4
          · exact False.elim h4
        · exact False.elim h4
    · exact False.elim h4
  · exact False.elim h3
theorem nD {P:Program} {t:TypeId} {l c:AV} {M:St} {k:St→AV→Prop} (h:aJ P t l c M k):aJ P t l c M fun M' r=>k M' r∧M'.l=M.l:=by
  obtain ⟨M',r,h1,h2⟩:=ce _ h
  refine h2 _ ⟨h1,?_⟩
  have h3:=h2 (fun M'' _=>M''=M') rfl
  unfold aJ at h3
  split at h3
  · split at h3
    · obtain ⟨n,h4,_⟩:=ax _ h3
      obtain ⟨m,h5,_⟩:=ax _ h4
      obtain ⟨_,h5⟩:=ab h5
      obtain ⟨z,h6,_⟩:=ar _ h5
      obtain ⟨_,h6⟩:=ab h6
      rw [ak] at h6
      rw [← h6]
    · exact False.elim h3
  · exact False.elim h3
theorem nE {M:St} {pk:Bool} {id i:Nat} {k:AV→St→Prop} (h:cr M pk id i k) (hk:∀ v M',M'.l=M.l→k v M'→False):False:=by
  unfold cr at h
  split at h
  · split at h
    · exact hk _ _ (by rfl) h
    · split at h
      · exact hk _ _ (by rfl) h
      · rw [aQ,ak] at h
        exact hk _ _ (by rfl) h
    · exact h
  · exact h
theorem tn {P:Program} {t:TypeId} {same pk:Bool} {M:St} {id i:Nat} {k:AV→St→Prop} (h:dL P t same pk M id i k) (hk:∀ v M',M'.l=M.l→k v M'→False):False:=by
  unfold dL at h
  split at h
  · split at h
    · obtain ⟨_,h⟩:=ab h
      obtain ⟨r,h,_⟩:=bz _ h
      exact hk _ _ (by rfl) h
    · exact h
  · refine nE h (fun v M' e h=>?_)
    obtain ⟨r,h,_⟩:=bz _ h
    exact hk _ _ e h
theorem r6 {P:Program} {t:TypeId} {M:St} {id i:Nat} {v:AV} {K:St→Prop} (h:cV P t M id i v K) (hk:∀ M',M'.l=M.l→K M'→False):False:=by
  unfold cV at h
  split at h
  · obtain ⟨_,h⟩:=ab h
    rw [ak] at h
    exact hk _ (by rfl) h
  · exact h
theorem tp {P:Program} {t:TypeId} {nw:Bool} {j:Nat} {l c:AV} {M:St} {k:AV→St→Prop} (h:dh P nw j t l c M k) (hk:∀ v M',M'.l=M.l→k v M'→False):False:=by
  unfold dh at h
  split at h
  · split at h
    · split at h
      · obtain ⟨n,h,_⟩:=ax _ h
        obtain ⟨m,h,_⟩:=ax _ h
        obtain ⟨_,h⟩:=ab h
        obtain ⟨z,h,_⟩:=ar _ h
        split at h
        · obtain ⟨_,h,_⟩:=dw _ h
          exact hk _ _ (by rfl) h
        · exact h
      · exact h
    · exact h
  · exact h
theorem oK {P:Program} {t:TypeId} {M:St} {k:AV→St→Prop} (h:cL P t M k) (hk:∀ v M',M'.l=M.l→k v M'→False):False:=by
  unfold cL at h
  split at h
  · split at h
    · split at h
      · obtain ⟨_,h⟩:=ab h
        rw [ak] at h
        exact hk _ _ (by rfl) h
      · exact h
    · exact h
  · exact h
theorem tq {P:Program} {t:TypeId} {m key:AV} {ok:Bool} {M:St} {k:AV→St→Prop} (h:dM P t m key ok M k) (hk:∀ v M',M'.l=M.l→k v M'→False):False:=by
  unfold dM at h
  split at h
  · split at h
    · split at h
      · obtain ⟨x,r,h,_⟩:=bB _ h
        split at h
        · refine nE h (fun v M' e h=>?_)
          obtain ⟨r,h,_⟩:=cy _ h
          exact hk _ _ e h
        · obtain ⟨r,h,_⟩:=b8 _ h
          exact hk _ _ (by rfl) h
      · exact h
    · exact h
  · exact h
theorem pM {P:Program} {t:TypeId} {m key x:AV} {M:St} {K:St→Prop} (h:ej P t m key x M K) (hk:∀ M',M'.l=M.l→K M'→False):False:=by
  unfold ej at h
  split at h
  · split at h
    · split at h
      · obtain ⟨_,h⟩:=ab h
        obtain ⟨x,r,h,_⟩:=bB _ h
        obtain ⟨_,h⟩:=ab h
        split at h
        · obtain ⟨_,h⟩:=ab h
          rw [ak] at h
          exact hk _ (by rfl) h
        · split at h
          · rw [ak] at h
            exact hk _ (by rfl) h
          · exact h
      · exact h
    · exact h
  · exact h
theorem r7 {M:St} {x:AV} {X:Nat→Nat→Prop} (h:dZ M x X) (hk:∀ id i,X id i→False):False:=by
  unfold dZ at h
  split at h
  · split at h
    · exact hk _ _ h
    · exact h
  · exact h
theorem yg {P:Program} {pl:aD} {o:Oper} {vs:List AV} {M:St} {k:AV→St→Prop} (h:fF P pl o vs M k) (hk:∀ v M',M'.l=M.l→k v M'→False):False:=by
  unfold fF at h
  split at h
  · exact r7 h (fun _ _ h=>tn h hk)
  · exact r7 h (fun _ _ h=>r6 h (fun M' e h=>hk _ _ e h))
  · exact tp h hk
  · exact oK h hk
  · exact tq h hk
  · exact pM h (fun M' e h=>hk _ _ e h)
  · exact pM h (fun M' e h=>hk _ _ e h)
  · exact h
theorem u5 {P:Program} {pl:aD} {o:Oper} {vs:List AV} {M:St} {k:AV→St→Prop} (h:fF P pl o vs M k):fF P pl o vs M fun v M'=>k v M'∧M'.l=M.l:=by
  obtain ⟨v,M',h1,h2⟩:=nt _ h
  refine h2 _ ⟨h1,?_⟩
  by_cases e:M'.l=M.l
  · exact e
  · exact (yg (h2 (fun _ M''=>M''.l≠M.l) e) (fun _ _ e h=>h e)).elim
theorem v_ {P:Program} {pl:aD} {o:Oper} {x:AV} {vs:List AV} {M:St} {k:AV→St→Prop} (h:fF P pl o (x::vs) M k) (ht:(addrOf o).isSome=true):∀ d i j,x≠.ptr (.L d) i j:=by
  intro d i j e
  subst e
  unfold fF at h
  unfold addrOf at ht
  split at h
  · rename_i he
    cases he
    exact h
  · rename_i he
    cases he
    exact h
  · rename_i ho _
    rw [ho] at ht
    cases ht
  · rename_i he
    cases he
  · rename_i ho _
    rw [ho] at ht
    cases ht
  · rename_i ho _
    rw [ho] at ht
    cases ht
  · rename_i ho _
    rw [ho] at ht
    cases ht
  · exact h
def pN (pl:aD) (o:Oper):Prop:=((∃ t X Y,o.op=.makeSlice t X Y)∨∃ c,o.op=.call c)∨cK pl o=true
theorem pO {pl:aD} {o:Oper} (h:¬ pN pl o):cK pl o=false:=by
  cases e:cK pl o with
  | false=>rfl
  | true=>exact absurd (.inr e) h
theorem pQ {pl:aD} {o:Oper} (h:cC pl o≠2):cK pl o=false:=by
  cases e:cK pl o with
  | false=>rfl
  | true=>exact absurd (by unfold cC; rw [e]) h
theorem jI {C:Ctx} {pl:aD} {o:Oper} {vs:List AV} {M:St} {k:AV→St→Prop} (h:¬ pN pl o):gq C pl o vs M k=oZ C o vs M k:=by
  unfold gq
  rw [pO h]
  dsimp only
  unfold fK
  split
  · rename_i t X Y l c ho
    exact absurd (.inl (.inl ⟨t,X,Y,ho⟩)) h
  · rename_i c _ _ _ _ ho
    exact absurd (.inl (.inr ⟨c,ho⟩)) h
  · rfl
theorem u6 {C:Ctx} (hC:cE C) {pl:aD} {o:Oper} {vs:List AV} {M:St} {k:AV→St→Prop} (hm:pN pl o) (h:gq C pl o vs M k):gq C pl o vs M fun v M'=>k v M'∧M'.l=M.l:=by
  unfold gq at h ⊢
  cases e:cK pl o with
  | true =>
    rw [e] at h
    exact u5 h
  | false =>
    rw [e] at h
    have hm:(∃ t X Y,o.op=.makeSlice t X Y)∨∃ c,o.op=.call c:=by
      rcases hm with hm | hm
      · exact hm
      · rw [e] at hm; cases hm
    dsimp only at h ⊢
    unfold fK at h ⊢
    split at h
    · rename_i t' X' Y' l c ho'
      exact nD h
    · split at h
      · obtain ⟨h1,h⟩:=ab h
        refine af h1 ?_
        obtain ⟨r,o',h2,h3⟩:=hC.scall _ _ _ _ h
        refine h3 _ ?_
        obtain ⟨h4,h5⟩:=ab h2
        exact af h4 ⟨h5,rfl⟩
      · exact h.elim
    · exfalso
      unfold oZ at h
      split at h
      · rename_i heq x1 x2
        rcases hm with ⟨t,X,Y,ho⟩ | ⟨c,ho⟩ <;> (rw [ho] at heq; cases heq)
      · exact h
theorem wa {pl:aD} {o:Oper} {ty:TypeId} {x:Operand} (hw:cK pl o=false) (ho:o.op=.load ty x):cC pl o=1:=by
  unfold cC
  rw [hw]
  dsimp only
  unfold o4
  rw [ho]
  dsimp only
  unfold vM
  rw [ho]
theorem u7 {pl:aD} {o:Oper} {ty:TypeId} {x y:Operand} (hw:cK pl o=false) (ho:o.op=.store ty x y):cC pl o=2:=by
  unfold cC
  rw [hw]
  dsimp only
  unfold o4
  rw [ho]
  dsimp only
  unfold vM
  rw [ho]
theorem tr {C:Ctx} {pl:aD} {ops:Array Oper} {o:Oper} {S:St} {vs:List AV} {k:AV→St→Prop} (hm:pN pl o) (hkey:d7 pl ops o S=true) (hget:bC S o.op.operands.toList (fun x=>x=vs)) (h:gq C pl o vs (bp S) k):cD pl ops o=none:=by
  cases ht:addrOf o with
  | none=>unfold cD; rw [ht]
  | some t =>
    obtain ⟨c,hc1,hc2⟩:=jH hkey ht
    cases hs:cD pl ops o with
    | none=>rfl
    | some r =>
      exfalso
      rw [hs] at hc2
      obtain ⟨i,j,rfl⟩:=iw hc2
      have hw:cK pl o=true:=by
        rcases hm with (⟨t',X,Y,ho⟩ | ⟨c,ho⟩) | hm
        · unfold addrOf at ht; rw [ho] at ht; cases ht
        · unfold addrOf at ht; rw [ho] at ht; cases ht
        · exact hm
      unfold gq at h
      rw [hw] at h
      dsimp only at h
      have hx:∃ ys,vs=.ptr (.L r) i j::ys:=by
        unfold addrOf at ht
        split at ht
        · rename_i ty x ho
          cases ht
          have hop:o.op.operands.toList=[.tmp t]:=by rw [ho]; simp [Op.operands]
          rw [hop] at hget
          exact ⟨[],(pK hc1 hget).symm⟩
        · rename_i ty x y ho
          cases ht
          have hop:o.op.operands.toList=[.tmp t,y]:=by rw [ho]; simp [Op.operands]
          rw [hop] at hget
          obtain ⟨b,hb⟩:=pL hc1 hget
          exact ⟨[b],hb.symm⟩
        · cases ht
      obtain ⟨ys,rfl⟩:=hx
      exact v_ h (by rw [ht]; rfl) r i j rfl
theorem u9 {pl:aD} {o:Oper} {t:Nat} (h:addrOf o=some t) (hc:cC pl o=1):∃ ty,o.op=.load ty (.tmp t):=by
  unfold addrOf at h
  split at h
  · rename_i ty x ho
    cases h
    exact ⟨ty,ho⟩
  · rename_i ty x y ho
    rw [u7 (pQ (by rw [hc]; decide)) ho] at hc
    cases hc
  · cases h
theorem tu {pl:aD} {o:Oper} {t:Nat} (h:addrOf o=some t) (hw:cK pl o=false) (hc:cC pl o=2):∃ ty y,o.op=.store ty (.tmp t) y:=by
  unfold addrOf at h
  split at h
  · rename_i ty x ho
    rw [wa hw ho] at hc
    cases hc
  · rename_i ty x y ho
    cases h
    exact ⟨ty,y,ho⟩
  · cases h
theorem ue {C:Ctx} (hC:cE C) {pl:aD} {ops:Array Oper} {o:Oper} {S:St} {K:St→Prop} (hez:sS (cC pl o)=true) (h:jl C pl ops o S K):∃ v m,zF C pl ops o S v m∧K (dU S o.dst v m):=by
  obtain ⟨hkey,h⟩:=ab h
  have jR:∀ {S2:St} {K2:St→Prop},iv o.op.operands.toList S S2→oe C pl o S2 K2→jl C pl ops o S2 K2:=fun ha h=>af (by rw [qJ ha]; exact hkey) h
  unfold oe at h
  split at h
  · rename_i hc
    obtain ⟨vs,h1,h2⟩:=aw _ h
    obtain ⟨r,h3,h4⟩:=ml _ h1
    rw [al] at h3
    refine ⟨r,none,⟨⟨fun _=>rfl,fun M e=>by cases e⟩,fun S2 ha _ K2 hk=>jR ha ?_⟩,h3⟩
    unfold oe
    rw [hc]
    refine dE (S:=S) (h2 (fun vs=>pop C pl o vs fun r=>aA o.dst r S2 K2) (h4 _ ?_)) ha
    rw [al]
    exact hk
  · rename_i hc
    obtain ⟨vs,h1,h2⟩:=aw _ h
    obtain ⟨r,h3,h4⟩:=mm hC _ h1
    rw [al] at h3
    refine ⟨r,none,⟨⟨fun _=>rfl,fun M e=>by cases e⟩,fun S2 ha hm K2 hk=>jR ha ?_⟩,h3⟩
    unfold oe
    rw [hc]
    have h5:=h4 (fun r=>aA o.dst r S2 K2) (by rw [al]; exact hk)
    have hm1:=hm.1 hc
    refine dE (S:=S) (h2 (fun vs=>iT C o vs (bp S2) fun r=>aA o.dst r S2 K2) ?_) ha
    cases ht:addrOf o with
    | some t =>
      obtain ⟨c,hc1,hc2⟩:=jH hkey ht
      obtain ⟨ty,ho⟩:=u9 ht hc
      have hop:o.op.operands.toList=[.tmp t]:=by rw [ho]; simp [Op.operands]
      have hvs:vs=[c]:=by
        have:=h2 (fun x=>x=vs) rfl
        rw [hop] at this
        exact (pK hc1 this).symm
      subst hvs
      cases hs:cD pl ops o with
      | some r =>
        rw [hs] at hm1 hc2
        obtain ⟨i,j,rfl⟩:=iw hc2
        exact v8 ho (M:=bp S) hm1 h5
      | none =>
        rw [hs] at hm1 hc2
        exact pJ ho hc2 (M:=bp S) hm1 h5
    | none =>
      have hs:cD pl ops o=none:=by unfold cD; rw [ht]
      rw [hs] at hm1
      by_cases hl:∃ ty x,o.op=.load ty x
      · obtain ⟨ty,x,ho⟩:=hl
        have hop:o.op.operands.toList=[x]:=by rw [ho]; simp [Op.operands]
        by_cases hglob:∃ g,x=.global g
        · obtain ⟨g,rfl⟩:=hglob
          have hv:=h2 (fun x=>x=vs) rfl
          rw [hop] at hv
          obtain ⟨row,hv⟩:=nC hv
          have hv':[AV.fptr row 0]=vs:=hv
          subst hv'
          exact pJ ho rfl (M:=bp S) hm1 h5
        exfalso
        cases x with
        | tmp t=>unfold addrOf at ht; rw [ho] at ht; cases ht
        | const cc =>
          have hv:=h2 (fun x=>x=vs) rfl
          rw [hop] at hv
          have hv':vs=[uF cc]:=by
            have:dX (uF cc) (fun a=>[a]=vs):=hv
            rw [aQ] at this
            exact this.symm
          subst hv'
          have h6:=h1
          unfold iT at h6
          rw [ho] at h6
          have h7:vC (bp S) (uF cc) fun row j=>dJ C.P ty row j fun r=>aA o.dst r S K:=h6
          have hno:∀ c:Value,(∀ k i j,uF c≠.ptr k i j)∧∀ r j,uF c≠.fptr r j:=by
            intro c
            refine ⟨fun k i j=>?_,fun r j=>?_⟩ <;>
            · unfold uF
              split
              · intro h; cases h
              · unfold mw
                split <;> intro h <;> cases h
          unfold vC at h7
          split at h7
          · rename_i k i j he; exact (hno cc).1 _ _ _ he
          · rename_i r j he; exact (hno cc).2 _ _ he
          · exact h7
        | func f =>
          have hv:=h2 (fun x=>x=vs) rfl
          rw [hop] at hv
          have hv':[AV.fn f [] []]=vs:=hv
          subst hv'
          have h6:=h1
          unfold iT at h6
          rw [ho] at h6
          exact h6
        | global g=>exact hglob ⟨g,rfl⟩
      · exact yU (fun ty x he=>hl ⟨ty,x,he⟩) (M:=bp S) hm1 h5
  · rename_i hc
    obtain ⟨vs,h1,h2⟩:=aw _ h
    by_cases hmk:pN pl o
    · obtain ⟨r,M,⟨h3,h5⟩,h4⟩:=rW hC _ (u6 hC hmk h1)
      rw [al] at h3
      refine ⟨r,some M,⟨⟨fun hn=>absurd hc hn,fun M' e=>?_⟩,fun S2 ha hm K2 hk=>jR ha ?_⟩,h3⟩
      · cases e
        rw [tr hmk hkey (h2 (fun x=>x=vs) rfl) h1]
        exact h5
      · unfold oe
        rw [hc]
        have hm':=r4 (hm.2 hc)
        refine dE (S:=S) (h2 (fun vs=>gq C pl o vs (bp S2) fun r M=>aA o.dst r (cq S2 M) K2) ?_) ha
        rw [hm']
        refine h4 _ ?_
        rw [al]
        exact hk
    rw [jI hmk] at h1
    have hkeep:oZ C o vs (bp S) fun v M'=>(fun v M=>aA o.dst v (cq S M) K) v M'∧(∀ t,addrOf o=some t→kq (cD pl ops o) S M'):=by
      cases ht:addrOf o with
      | none =>
        obtain ⟨r,M,h3,h4⟩:=fQ _ h1
        exact h4 _ ⟨h3,fun t e=>by cases e⟩
      | some t =>
        obtain ⟨c,hc1,hc2⟩:=jH hkey ht
        obtain ⟨ty,y,ho⟩:=tu ht (pO hmk) hc
        have hop:o.op.operands.toList=[.tmp t,y]:=by rw [ho]; simp [Op.operands]
        have hvs:∃ b,vs=[c,b]:=by
          have:=h2 (fun x=>x=vs) rfl
          rw [hop] at this
          obtain ⟨b,hb⟩:=pL hc1 this
          exact ⟨b,hb.symm⟩
        obtain ⟨b,rfl⟩:=hvs
        obtain ⟨r,M,h3,h4⟩:=fQ _ (v9 hc2 h1)
        exact h4 _ ⟨h3.1,fun t' _=>(show kq (cD pl ops o) (bp S) M from h3.2)⟩
    obtain ⟨r,M,⟨h3,h5⟩,h4⟩:=fQ _ hkeep
    rw [al] at h3
    refine ⟨r,some M,⟨⟨fun hn=>absurd hc hn,fun M' e=>?_⟩,fun S2 ha hm K2 hk=>jR ha ?_⟩,h3⟩
    · cases e
      cases ht:addrOf o with
      | some t=>exact h5 t ht
      | none =>
        exfalso
        have h6:=h4 (fun _ _=>True) trivial
        unfold oZ at h6
        split at h6
        · rename_i ty X Y p z ho
          cases X with
          | tmp t=>unfold addrOf at ht; rw [ho] at ht; cases ht
          | const cc =>
            have hv:=h2 (fun x=>x=[p,z]) rfl
            have hop:o.op.operands.toList=[.const cc,Y]:=by rw [ho]; simp [Op.operands]
            rw [hop] at hv
            have hv':dX (uF cc) fun a=>a_ S Y fun b=>[a,b]=[p,z]:=hv
            rw [aQ] at hv'
            obtain ⟨b,hb,_⟩:=aS _ hv'
            cases hb
            obtain ⟨cs,h7,_⟩:=aT _ h6
            have hno:∀ c:Value,∀ k i j,uF c≠.ptr k i j:=by
              intro c k i j
              unfold uF
              split
              · intro h; cases h
              · unfold mw
                split <;> intro h <;> cases h
            split at h7
            · obtain ⟨_,h7⟩:=ab h7
              unfold fV at h7
              split at h7
              · rename_i he; exact hno cc _ _ _ he
              · rename_i he; exact hno cc _ _ _ he
              · exact h7
            · exact h7
          | func f =>
            have hv:=h2 (fun x=>x=[p,z]) rfl
            have hop:o.op.operands.toList=[.func f,Y]:=by rw [ho]; simp [Op.operands]
            rw [hop] at hv
            have hv':a_ S Y fun b=>[AV.fn f [] [],b]=[p,z]:=hv
            obtain ⟨b,hb,_⟩:=aS _ hv'
            cases hb
            obtain ⟨cs,h7,_⟩:=aT _ h6
            split at h7
            · obtain ⟨_,h7⟩:=ab h7
              exact h7
            · exact h7
          | global g =>
            have hv:=h2 (fun x=>x=[p,z]) rfl
            have hop:o.op.operands.toList=[.global g,Y]:=by rw [ho]; simp [Op.operands]
            rw [hop] at hv
            obtain ⟨row,hv⟩:=nC hv
            have hv':a_ S Y fun b=>[AV.fptr row 0,b]=[p,z]:=hv
            obtain ⟨b,hb,_⟩:=aS _ hv'
            cases hb
            obtain ⟨cs,h7,_⟩:=aT _ h6
            split at h7
            · obtain ⟨_,h7⟩:=ab h7
              exact h7
            · exact h7
        · exact h6
    · unfold oe
      rw [hc]
      have hm':=r4 (hm.2 hc)
      refine dE (S:=S) (h2 (fun vs=>gq C pl o vs (bp S2) fun r M=>aA o.dst r (cq S2 M) K2) ?_) ha
      rw [hm',jI hmk]
      refine h4 _ ?_
      rw [al]
      exact hk
  · rename_i hc
    split at h
    · rename_i d hd
      rw [al] at h
      refine ⟨_,none,⟨⟨fun _=>rfl,fun M e=>by cases e⟩,fun S2 ha _ K2 hk=>jR ha ?_⟩,h⟩
      unfold oe
      rw [hc]
      show match o.dst with
        | some d=>aA o.dst (.ptr (.L d) 0 0) S2 K2
        | none=>ac 217
      split
      · rename_i d2 hd2
        rw [hd] at hd2
        cases hd2
        rw [al]
        exact hk
      · rename_i hd2
        rw [hd] at hd2
        cases hd2
    · exact False.elim h
  · rename_i hc
    obtain ⟨vs,h1,h2⟩:=aw _ h
    obtain ⟨r,h3,h4⟩:=mn _ h1
    rw [al] at h3
    refine ⟨r,none,⟨⟨fun _=>rfl,fun M e=>by cases e⟩,fun S2 ha _ K2 hk=>jR ha ?_⟩,h3⟩
    unfold oe
    rw [hc]
    refine dE (S:=S) (h2 (fun vs=>x4 C o vs fun r=>aA o.dst r S2 K2) (h4 _ ?_)) ha
    rw [al]
    exact hk
  · rename_i h0 h1 h2 h4 h5
    exfalso
    unfold sS at hez
    split at hez
    · rename_i he; exact h0 he
    · rename_i he; exact h1 he
    · rename_i he; exact h2 he
    · rename_i he; exact h4 he
    · rename_i he; exact h5 he
    · cases hez
theorem qK {S:St} {t:List AV} (h:t=S.t):({ t:=t,l:=S.l,o:=S.o,b:=S.b }:St)=S:=by
  subst h; rfl
theorem iy {t:List AV} {d:Nat} {x:AV} (h:t[d]?=some x):t.set d x=t:=by
  apply List.ext_getElem?
  intro j
  rw [List.getElem?_set]
  by_cases hj:d=j
  · subst hj
    rw [if_pos rfl,if_pos (List.getElem?_eq_some_iff.1 h).1,h]
  · rw [if_neg hj]
def uf (S:St) (d:Nat) (b:Option Bool):Prop :=
  match b with
  | some b=>S.t[d]?=some (.v (.bool b))
  | none=>S.t[d]?=some (.tup [])
theorem lL {d:Nat} {S:St} {k:Option Bool→St→Prop}:cW d S k↔∃ b,uf S d b∧k b S:=by
  constructor
  · intro h
    unfold cW at h
    rw [aY] at h
    obtain ⟨c,hc,h⟩:=h
    split at h
    · rename_i b
      rcases ga h with ⟨hb,h2⟩ | ⟨hb,h2⟩
      · subst hb
        rw [bV,qK (iy hc)] at h2
        exact ⟨some true,hc,h2⟩
      · subst hb
        rw [bV,qK (iy hc)] at h2
        exact ⟨some false,hc,h2⟩
    · exact ⟨none,hc,h⟩
    · exact False.elim h
  · rintro ⟨b,hb,h⟩
    unfold cW
    rw [aY]
    cases b with
    | none=>exact ⟨_,hb,h⟩
    | some b =>
      refine ⟨_,hb,?_⟩
      dsimp only
      refine sX (fun e=>?_) (fun e=>?_)
      · subst e; rw [bV,qK (iy hb)]; exact h
      · subst e; rw [bV,qK (iy hb)]; exact h
def agree (ops:Array Oper) (o:Oper) (S S2:St):Prop:=∀ d∈o.looksAt ops,S2.t[d]?=S.t[d]?
def Eff (C:Ctx) (pl:aD) (ops:Array Oper) (o:Oper) (S:St) (v:AV) (m:Option St):Prop :=
  l_ pl ops o S m∧∀ S2,agree ops o S S2→l9 pl ops o S S2→∀ K2:St→Prop,K2 (dU S2 o.dst v m)→ag C pl ops o S2 K2
theorem pR {ops:Array Oper} {o:Oper} {S S2:St} (h:agree ops o S S2):iv o.op.operands.toList S S2:=fun d hd =>
  h d (List.mem_append_left _ (List.mem_filterMap.2 ⟨.tmp d,hd,rfl⟩))
theorem wb {C:Ctx} (hC:cE C) {pl:aD} {ops:Array Oper} {o:Oper} {S:St} {K:St→Prop} (hez:sS (cC pl o)=true) (h:ag C pl ops o S K):∃ v m,Eff C pl ops o S v m∧K (dU S o.dst v m):=by
  unfold ag at h
  split at h
  · rename_i hg
    obtain ⟨v,m,⟨h1,h2⟩,h3⟩:=ue hC hez h
    refine ⟨v,m,⟨h1,fun S2 ha hm K2 hk=>?_⟩,h3⟩
    unfold ag
    rw [hg]
    exact h2 S2 (pR ha) hm K2 hk
  · rename_i j want hg
    split at h
    · exact False.elim h
    · rename_i d hd
      obtain ⟨b,hb,h⟩:=lL.1 h
      have hlook:d∈o.looksAt ops:=List.mem_append_right _ (by
        rw [hg]
        unfold jX at hd
        simp [hd])
      have hin:∀ (S2:St) (K2:St→Prop),agree ops o S S2→gsel b want (jl C pl ops o S2 K2) (aA o.dst (.tup []) S2 K2)→ag C pl ops o S2 K2:=by
        intro S2 K2 ha hk
        unfold ag
        rw [hg]
        dsimp only
        rw [hd]
        refine lL.2 ⟨b,?_,hk⟩
        unfold uf at hb ⊢
        rw [ha d hlook]
        exact hb
      have yes:jl C pl ops o S K→(∀ (S2:St) (K2:St→Prop),agree ops o S S2→jl C pl ops o S2 K2→ag C pl ops o S2 K2)→∃ v m,Eff C pl ops o S v m∧K (dU S o.dst v m):=by
        intro h hi
        obtain ⟨v,m,⟨h1,h2⟩,h3⟩:=ue hC hez h
        exact ⟨v,m,⟨h1,fun S2 ha hm K2 hk=>hi S2 K2 ha (h2 S2 (pR ha) hm K2 hk)⟩,h3⟩
      have no:aA o.dst (.tup []) S K→(∀ (S2:St) (K2:St→Prop),agree ops o S S2→aA o.dst (.tup []) S2 K2→ag C pl ops o S2 K2)→∃ v m,Eff C pl ops o S v m∧K (dU S o.dst v m):=by
        intro h hi
        rw [al] at h
        exact ⟨.tup [],none,⟨⟨fun _=>rfl,fun M e=>by cases e⟩,fun S2 ha _ K2 hk=>hi S2 K2 ha (by rw [al]; exact hk)⟩,h⟩
      cases b with
      | none=>exact no h (fun S2 K2 ha hk=>hin S2 K2 ha hk)
      | some b =>
        cases b <;> cases want
        · exact yes h (fun S2 K2 ha hk=>hin S2 K2 ha hk)
        · exact no h (fun S2 K2 ha hk=>hin S2 K2 ha hk)
        · exact no h (fun S2 K2 ha hk=>hin S2 K2 ha hk)
        · exact yes h (fun S2 K2 ha hk=>hin S2 K2 ha hk)
theorem wc {S:St} {dst:Option Tmp} {v:AV} {m:Option St} {d:Nat} (h:dst≠some d):(dU S dst v m).t[d]?=S.t[d]?:=by
  unfold dU fa
  cases dst with
  | none=>cases m <;> rfl
  | some e =>
    have hne:e≠d:=fun he=>h (by rw [he])
    cases m <;> simp [cq,List.getElem?_set_ne hne]
theorem nF {S:St} {dst:Option Tmp} {v:AV}:eJ S (dU S dst v none):=by
  unfold dU fa
  cases dst <;> exact ⟨rfl,rfl,rfl⟩
def nG (pl:aD) (ops:Array Oper) (x y:Oper):Prop :=
  cC pl x=2→cC pl y≠2∧(cC pl y=1→d8 pl ops x y=true)
theorem ma {pl:aD} {ops:Array Oper} {x y:Oper} (h:d8 pl ops x y=true):d8 pl ops y x=true:=by
  revert h
  unfold d8
  generalize cD pl ops x=a
  generalize cD pl ops y=b
  intro h
  cases a with
  | none=>cases b with
    | none=>exact h
    | some b=>rfl
  | some a=>cases b with
    | none=>rfl
    | some b =>
      have h':(!(Nat.beq a b))=true:=h
      show (!(Nat.beq b a))=true
      cases hb:Nat.beq b a with
      | false=>rfl
      | true =>
        have:=Nat.eq_of_beq_eq_true hb
        subst this
        rw [hb] at h'
        cases h'
theorem r8 {pl:aD} {ops:Array Oper} {x y:Oper} (h:mK pl ops x y=true):x.apart ops y=true∧nG pl ops x y∧nG pl ops y x∧sS (cC pl x)=true∧sS (cC pl y)=true:=by
  unfold mK at h
  simp only [Bool.and_eq_true] at h
  refine ⟨h.1,fun e=>⟨fun e2=>?_,fun e2=>?_⟩,fun e=>⟨fun e2=>?_,fun e2=>?_⟩,?_,?_⟩
  · have h2:=h.2
    rw [e,e2] at h2
    simp at h2
  · have h2:=h.2
    rw [e,e2] at h2
    exact h2
  · have h2:=h.2
    rw [e,e2] at h2
    simp at h2
  · have h2:=h.2
    rw [e,e2] at h2
    exact ma h2
  · have h2:=h.2
    revert h2
    split <;> rename_i h3 h4 <;> intro h2 <;> first | (rw [h3]; rfl) | cases h2
  · have h2:=h.2
    revert h2
    split <;> rename_i h3 h4 <;> intro h2 <;> first | (rw [h4]; rfl) | cases h2
theorem u_ {S:St} {x y:Option Tmp} {v u:AV} {m n:Option St} (h:∀ d,x=some d→y≠some d) (hm:m=none∨n=none):dU (dU S x v m) y u n=dU (dU S y u n) x v m:=by
  cases x with
  | none=>cases y <;> rcases hm with rfl | rfl <;> first | rfl | (cases m <;> rfl) | (cases n <;> rfl)
  | some d =>
    cases y with
    | none=>rcases hm with rfl | rfl <;> first | (cases m <;> rfl) | (cases n <;> rfl)
    | some e =>
      have hne:d≠e:=fun he=>h d rfl (he▸rfl)
      have hs:(S.t.set d v).set e u=(S.t.set e u).set d v:=List.set_comm _ _ hne
      rcases hm with rfl | rfl
      · cases n <;> simp only [dU,fa,cq,hs]
      · cases m <;> simp only [dU,fa,cq,hs]
theorem wd {S:St} {dst:Option Tmp} {v:AV} {m:Option St}:(dU S dst v m).l=match m with | none=>S.l | some M=>M.l:=by
  unfold dU
  rw [aV]
  cases m <;> rfl
theorem r9 {pl:aD} {ops:Array Oper} {x y:Oper} {S:St} {v:AV} {m:Option St} (hk:l_ pl ops x S m) (hc:nG pl ops x y):l9 pl ops y S (dU S x.dst v m):=by
  cases m with
  | none=>exact .of nF
  | some M =>
    have h2:cC pl x=2:=by
      cases Nat.decEq (cC pl x) 2 with
      | isTrue h=>exact h
      | isFalse h=>have:=hk.1 h; cases this
    obtain ⟨h3,h4⟩:=hc h2
    refine ⟨fun h1=>?_,fun h=>absurd h h3⟩
    have hap:=h4 h1
    have hkm:=hk.2 M rfl
    have hoM:(dU S x.dst v (some M)).o=M.o:=by unfold dU; rw [aW]; rfl
    revert hap hkm
    unfold d8
    generalize cD pl ops x=sx
    generalize cD pl ops y=sy
    intro hap hkm
    cases sx with
    | some a=>cases sy with
      | some b =>
        show ap _ b=_
        rw [wd]
        refine hkm.2 b (fun e=>?_)
        subst e
        have h':(!(Nat.beq b b))=true:=hap
        rw [show Nat.beq b b=true from Nat.beq_refl b] at h'
        cases h'
      | none =>
        show (dU S x.dst v (some M)).o=S.o
        rw [hoM]
        exact hkm.1
    | none=>cases sy with
      | some b =>
        show ap _ b=_
        rw [wd]
        show ap M.l b=_
        rw [show M.l=S.l from hkm]
      | none=>cases hap
theorem l9.symm {pl:aD} {ops:Array Oper} {o:Oper} {S S2:St} (h:l9 pl ops o S S2):l9 pl ops o S2 S:=⟨fun h1=>(h.1 h1).symm,fun h2=>(h.2 h2).symm⟩
theorem l9.trans {pl:aD} {ops:Array Oper} {o:Oper} {S S2 S3:St} (h:l9 pl ops o S S2) (k:l9 pl ops o S2 S3):l9 pl ops o S S3:=⟨fun h1=>(h.1 h1).trans (k.1 h1),fun h2=>(h.2 h2).trans (k.2 h2)⟩
theorem kq.of {site:Option Nat} {S S2 M:St} (h:eJ S S2) (k:kq site S2 M):kq site S M:=by
  cases site with
  | some r =>
    obtain ⟨k1,k2⟩:=k
    refine ⟨k1.trans h.2.1,fun r' hr=>?_⟩
    rw [k2 r' hr,h.1]
  | none=>exact Eq.trans k h.1
theorem l_.after {pl:aD} {ops:Array Oper} {x y:Oper} {S:St} {v:AV} {m n:Option St} (hk:l_ pl ops y (dU S x.dst v m) n) (hx:l_ pl ops x S m) (hc:nG pl ops x y):l_ pl ops y S n:=by
  refine ⟨hk.1,fun M e=>?_⟩
  have h2:cC pl y=2:=by
    cases Nat.decEq (cC pl y) 2 with
    | isTrue h=>exact h
    | isFalse h=>have:=hk.1 h; rw [this] at e; cases e
  have hm:m=none:=hx.1 fun h=>(hc h).1 h2
  subst hm
  exact kq.of nF (hk.2 M e)
theorem l_.before {pl:aD} {ops:Array Oper} {x y:Oper} {S:St} {v:AV} {m n:Option St} (hx:l_ pl ops x S m) (hy:l_ pl ops y S n) (hc:nG pl ops x y):l_ pl ops x (dU S y.dst v n) m:=by
  refine ⟨hx.1,fun M e=>?_⟩
  have h2:cC pl x=2:=by
    cases Nat.decEq (cC pl x) 2 with
    | isTrue h=>exact h
    | isFalse h=>have:=hx.1 h; rw [this] at e; cases e
  have hn:n=none:=hy.1 fun h=>(hc h2).1 h
  subst hn
  exact kq.of nF.symm (hx.2 M e)
theorem yh {C:Ctx} (hC:cE C) {pl:aD} {ops:Array Oper} {oi oj:Oper} {v:AV} {m:Option St} (hap:mK pl ops oi oj=true) {K:St→Prop} {S:St}
    (hy:Eff C pl ops oi S v m) (h:ag C pl ops oj (dU S oi.dst v m) K):ag C pl ops oj S fun S'=>Eff C pl ops oi S' v m∧K (dU S' oi.dst v m):=by
  obtain ⟨hap,hc1,hc2,_,hez⟩:=r8 hap
  obtain ⟨h1,h2,h3⟩:=Oper.apart_spec hap
  obtain ⟨u,n,hj,hk⟩:=wb hC hez h
  have hjk:l_ pl ops oj S n:=hj.1.after hy.1 hc1
  refine hj.2 S (fun d hd=>(wc (fun e=>h1 d e hd)).symm) (r9 hy.1 hc1).symm _ ⟨⟨hy.1.before hjk hc1,fun S2 ha hm K2 hk2=>hy.2 S2 (fun d hd=>(ha d hd).trans (wc (fun e=>h3 d e hd))) ((r9 hjk hc2).trans hm) K2 hk2⟩,?_⟩
  rw [← u_ h2 ?_]
  · exact hk
  · by_cases h12:cC pl oi=2
    · exact .inr (hj.1.1 (hc1 h12).1)
    · exact .inl (hy.1.1 h12)
theorem nH {f:Nat→Edge→Nat} {acc:List Nat} {i:Nat} (hf:∀ s e,Nat.testBit (f s e) i=true→Nat.testBit s i=true∨(Region.binds .any e=true∧(e.on=i∨Nat.testBit (acc.getD e.on 0) i=true))):∀ (l:List Edge) (s:Nat),Nat.testBit (l.foldl f s) i=true →
    Nat.testBit s i=true∨∃ e∈l,Region.binds .any e=true∧(e.on=i∨Nat.testBit (acc.getD e.on 0) i=true)
  | [],s,h=>.inl h
  | e::l,s,h=>by
    rw [List.foldl_cons] at h
    rcases nH hf l _ h with h | ⟨e',he,h1,h2⟩
    · rcases hf _ _ h with h | ⟨h1,h2⟩
      · exact .inl h
      · exact .inr ⟨e,List.mem_cons_self,h1,h2⟩
    · exact .inr ⟨e',List.mem_cons_of_mem _ he,h1,h2⟩
theorem f7 (o:Oper) (os:List Oper) (acc:List Nat):∃ b,aM (o::os) acc=aM os (acc++[b])∧∀ i,Nat.testBit b i=true→∃ e∈o.after,Region.binds .any e=true∧(e.on=i∨Nat.testBit (acc.getD e.on 0) i=true):=by
  refine ⟨_,rfl,fun i h=>?_⟩
  have hz:Nat.testBit 0 i=true→False:=fun h=>by simp at h
  refine (nH (acc:=acc) (fun s e h=>?_) _ _ h).elim (fun h=>(hz h).elim) (fun ⟨e,he,h1,h2⟩=>⟨e,by simpa using he,h1,h2⟩)
  split at h
  · rename_i hb
    have h':Nat.testBit (s ||| (2 ^ e.on ||| acc.getD e.on 0)) i=true:=h
    rw [Nat.testBit_or,Nat.testBit_or,Nat.testBit_two_pow] at h'
    simp only [Bool.or_eq_true,decide_eq_true_eq] at h'
    rcases h' with h' | h' | h'
    · exact .inl h'
    · exact .inr ⟨hb,.inl h'⟩
    · exact .inr ⟨hb,.inr h'⟩
  · exact .inl h
theorem i9:∀ (os:List Oper) (acc:List Nat),∃ l,aM os acc=acc++l
  | [],acc=>⟨[],by simp [aM]⟩
  | o::os,acc=>by
    obtain ⟨b,h1,_⟩:=f7 o os acc
    obtain ⟨l,h⟩:=i9 os (acc++[b])
    exact ⟨b::l,by rw [h1,h,List.append_assoc]; rfl⟩
theorem i_:∀ (os:List Oper) (acc:List Nat) (j:Nat) (o:Oper) (i:Nat),os[j]?=some o→Nat.testBit ((aM os acc).getD (acc.length + j) 0) i=true →
    ∃ e∈o.after,Region.binds .any e=true∧(e.on=i∨Nat.testBit ((aM os acc).getD e.on 0) i=true)
  | [],_,_,_,_,h,_=>by simp at h
  | o0::os,acc,0,o,i,h,hb=>by
    simp only [List.getElem?_cons_zero,Option.some.injEq] at h
    subst h
    obtain ⟨b,h1,h2⟩:=f7 o0 os acc
    obtain ⟨l,hl⟩:=i9 os (acc++[b])
    rw [h1,hl,List.append_assoc] at hb ⊢
    have e1:(acc++([b]++l)).getD (acc.length + 0) 0=b:=by
      simp [List.getD_eq_getElem?_getD]
    rw [e1] at hb
    obtain ⟨e,he,h3,h4⟩:=h2 i hb
    refine ⟨e,he,h3,h4.imp id (fun h=>?_)⟩
    by_cases hlt:e.on<acc.length
    · rw [List.getD_eq_getElem?_getD,List.getElem?_append_left hlt,← List.getD_eq_getElem?_getD]
      exact h
    · rw [List.getD_eq_getElem?_getD,List.getElem?_eq_none (by omega)] at h
      simp at h
  | o0::os,acc,j + 1,o,i,h,hb=>by
    obtain ⟨b,h1,h2⟩:=f7 o0 os acc
    rw [h1] at hb ⊢
    refine i_ os _ j o i (by simpa using h) ?_
    have:(acc++[b]).length + j=acc.length + (j + 1):=by simp; omega
    rw [this]
    exact hb
theorem waits {ops:Array Oper} {j i:Nat} {o:Oper} (hj:ops[j]?=some o) (h:Nat.testBit ((aM ops.toList []).getD j 0) i=true) :
    ∃ e∈o.after,Region.binds .any e=true∧(e.on=i∨Nat.testBit ((aM ops.toList []).getD e.on 0) i=true) :=
  i_ ops.toList [] j o i (by simpa using hj) (by simpa using h)
def Closed (ops:Array Oper) (listed:Array Bool):Prop:=∀ j,listed.getD j false=true→∀ i,Nat.testBit ((aM ops.toList []).getD j 0) i=true→listed.getD i false=true
theorem wh {listed:Array Bool} {i:Nat} (h:listed.getD i true=false):listed.getD i false=true→False:=by
  intro h2
  simp only [Array.getD_eq_getD_getElem?] at h h2
  cases hh:listed[i]? with
  | none=>rw [hh] at h; simp at h
  | some b=>rw [hh] at h h2; simp at h h2; rw [h] at h2; cases h2
theorem Closed.ready {ops:Array Oper} {listed:Array Bool} (hc:Closed ops listed) {j:Nat} (hj:j∈Region.ready .any ops listed) {i:Nat} (hb:Nat.testBit ((aM ops.toList []).getD j 0) i=true):listed.getD i false=true:=by
  obtain ⟨_,o,ho,hall⟩:=mem_ready.1 hj
  obtain ⟨e,he,h1,h2⟩:=waits ho hb
  rcases h2 with h2 | h2
  · rw [← h2]; exact hall e he h1
  · exact hc _ (hall e he h1) _ h2
theorem nI {listed:Array Bool} {i j:Nat} (h:listed.getD i false=true):(listed.setIfInBounds j true).getD i false=true:=by
  by_cases hij:j=i
  · subst hij
    simp only [Array.getD_eq_getD_getElem?] at *
    cases hh:listed[j]? with
    | none=>rw [hh] at h; simp at h
    | some b =>
      have:=(Array.getElem?_eq_some_iff.1 hh).1
      simp [this]
  · rw [getD_set_ne false hij]; exact h
theorem Closed.set {ops:Array Oper} {listed:Array Bool} (hc:Closed ops listed) {j:Nat} (hj:j∈Region.ready .any ops listed):Closed ops (listed.setIfInBounds j true):=by
  intro k hk i hb
  by_cases hjk:j=k
  · subst hjk
    exact nI (hc.ready hj hb)
  · rw [getD_set_ne false hjk] at hk
    exact nI (hc k hk i hb)
theorem iz {ops:Array Oper} {listed:Array Bool} {i j:Nat} (hi:i∈Region.ready .any ops listed) (hne:j≠i):i∈Region.ready .any ops (listed.setIfInBounds j true):=by
  obtain ⟨h1,o,ho,h2⟩:=mem_ready.1 hi
  exact mem_ready.2 ⟨by rw [getD_set_ne true hne]; exact h1,o,ho,fun e he hb=>nI (h2 e he hb)⟩
def wi (C:Ctx) (pl:aD) (ops:Array Oper) (i:Nat) (K:St→Prop) (S:St):Prop :=
  match ops[i]? with
  | none=>K S
  | some o=>ag C pl ops o S K
def r_ (C:Ctx) (pl:aD) (ops:Array Oper) (Q:St→Prop):Nat→Array Bool→St→Prop
  | 0,listed,S=>Region.ready .any ops listed=[]∧Q S
  | fuel + 1,listed,S=>(Region.ready .any ops listed=[]→Q S)∧∀ i∈Region.ready .any ops listed,wi C pl ops i (r_ C pl ops Q fuel (listed.setIfInBounds i true)) S
theorem ug {C:Ctx} (hC:cE C) {pl:aD} {ops:Array Oper} {o:Oper} {S:St} {K K':St→Prop} (h:ag C pl ops o S K) (hk:∀ S,K S→K' S):ag C pl ops o S K':=by
  obtain ⟨S',h1,h2⟩:=v6 hC _ h
  exact h2 K' (hk _ h1)
def Fr (pl:aD) (ops:Array Oper) (listed:Array Bool) (i:Nat) (oi:Oper):Prop:=∀ j oj,ops[j]?=some oj→j≠i→listed.getD j true=false→Nat.testBit ((aM ops.toList []).getD j 0) i=false→mK pl ops oi oj=true
theorem tv {C:Ctx} (hC:cE C) {pl:aD} {ops:Array Oper} {Q:St→Prop} {i:Nat} {oi:Oper} {v:AV} {m:Option St} (hi:ops[i]?=some oi) :
    ∀ (fuel:Nat) (listed:Array Bool) (S:St),Closed ops listed→Fr pl ops listed i oi→i∈Region.ready .any ops listed→Eff C pl ops oi S v m →
      r_ C pl ops Q fuel (listed.setIfInBounds i true) (dU S oi.dst v m)→r_ C pl ops Q (fuel + 1) listed S:=by
  have here:∀ {S:St} {K:St→Prop},Eff C pl ops oi S v m→K (dU S oi.dst v m)→wi C pl ops i K S:=by
    intro S K hy hk
    unfold wi
    rw [hi]
    exact hy.2 S (fun _ _=>rfl) (.of (eJ.refl S)) K hk
  intro fuel
  induction fuel with
  | zero =>
    intro listed S _ _ hr hy H
    refine ⟨fun h=>(by rw [h] at hr; cases hr),fun j hj=>?_⟩
    by_cases hji:j=i
    · subst hji; exact here hy H
    · have:=iz hj (fun e=>hji e.symm)
      rw [H.1] at this
      cases this
  | succ fuel ih =>
    intro listed S hcl hfree hr hy H
    refine ⟨fun h=>(by rw [h] at hr; cases hr),fun j hj=>?_⟩
    by_cases hji:j=i
    · subst hji; exact here hy H
    · have h1:=H.2 j (iz hj (fun e=>hji e.symm))
      obtain ⟨hjun,oj,hoj,hall⟩:=mem_ready.1 hj
      have hnot:Nat.testBit ((aM ops.toList []).getD j 0) i=false:=by
        cases hb:Nat.testBit ((aM ops.toList []).getD j 0) i with
        | false=>rfl
        | true=>exact (wh (mem_ready.1 hr).1 (hcl.ready hj hb)).elim
      unfold wi at h1 ⊢
      rw [hoj] at h1 ⊢
      have h2:=yh hC (hfree j oj hoj hji hjun hnot) hy h1
      have hfree':Fr pl ops (listed.setIfInBounds j true) i oi:=fun k ok hk hki hun hno=>by
        refine hfree k ok hk hki ?_ hno
        by_cases hjk:j=k
        · subst hjk; exact hjun
        · rw [getD_set_ne true hjk] at hun; exact hun
      refine ug hC h2 (fun S' h3=>ih (listed.setIfInBounds j true) S' (hcl.set hj) hfree' (iz hr (fun e=>hji e)) h3.1 ?_)
      rw [Array.setIfInBounds_comm _ _ hji]
      exact h3.2
theorem tw {pl:aD} {ops:Array Oper} {listed:Array Bool} {i:Nat} {oi:Oper} (hi:ops[i]?=some oi) (h:t8 pl ops (aM ops.toList []) listed i=true):Fr pl ops listed i oi:=by
  intro j oj hj hji hun hno
  unfold t8 at h
  rw [hi] at h
  have hlt:j<ops.size:=(Array.getElem?_eq_some_iff.1 hj).1
  have:=List.all_eq_true.1 h j (List.mem_range.2 hlt)
  rw [hj] at this
  simp only [hun,hno,Bool.or_eq_true,Bool.or_false] at this
  rcases this with h | h
  · exact absurd (Nat.eq_of_beq_eq_true h) hji
  · simpa using h
theorem wj {x y:Value} (h:zl x y=true):x=y:=by
  unfold zl at h
  split at h
  · simp at h; rw [h]
  · simp at h; rw [h.1,h.2]
  · rename_i a b
    have h':=eq_of_beq h
    congr 1
    have:a.data=b.data:=Array.ext' h'
    cases a; cases b; simp_all
  · cases h
theorem yi {x y:Key} (h:zE x y=true):x=y:=by
  unfold zE at h
  split at h
  · rw [Nat.eq_of_beq_eq_true h]
  · rw [Nat.eq_of_beq_eq_true h]
  · cases h
theorem bR {α:Type} {f:α→α→Bool} (hf:∀ x y,f x y=true→x=y):∀ {xs ys:List α},jm f xs ys=true→xs=ys
  | [],[],_=>rfl
  | x::xs,y::ys,h=>by
    unfold jm at h
    simp only [Bool.and_eq_true] at h
    rw [hf x y h.1,bR hf h.2]
  | [],_::_,h=>by cases h
  | _::_,[],h=>by cases h
theorem fx:∀ (n:Nat) (x y:AV),q7 n x y=true→x=y
  | 0,_,_,h=>by cases h
  | n + 1,x,y,h=>by
    have ih:=fx n
    have nb:∀ {a b:Nat},Nat.beq a b=true→a=b:=fun h=>Nat.eq_of_beq_eq_true h
    unfold q7 at h
    split at h <;> first | rfl | (cases h; done) | skip
    · rw [wj h]
    · simp only [Bool.and_eq_true] at h; rw [yi h.1.1,nb h.1.2,nb h.2]
    · simp only [Bool.and_eq_true] at h; rw [bR ih h.1,nb h.2]
    · rw [bR (fun _ _ h=>bR ih h) h]
    · rw [nb h]
    · rw [nb h]
    · simp only [Bool.and_eq_true] at h; rw [nb h.1.1.1,nb h.1.1.2,nb h.1.2,nb h.2]
    · rw [nb h]
    · simp only [Bool.and_eq_true] at h; rw [nb h.1.1,bR ih h.1.2,bR ih h.2]
    · rw [bR ih h]
    · rw [bR ih h]
    · rw [nb h]
theorem da {x y:List Nat} (h:re x y=true):x=y:=bR (fun _ _ h=>Nat.eq_of_beq_eq_true h) h
theorem xf {x y:Value} (h:x6 x y=true):x=y:=by
  unfold x6 at h
  split at h
  · simp only [Bool.and_eq_true] at h; rw [Nat.eq_of_beq_eq_true h.1,Nat.eq_of_beq_eq_true h.2]
  · rfl
  · exact wj h
theorem bY (x y:Operand) (h:eu x y=true):x=y:=by
  unfold eu at h
  split at h
  · rw [Nat.eq_of_beq_eq_true h]
  · rw [xf h]
  · rw [Nat.eq_of_beq_eq_true h]
  · cases h
theorem sb {α:Type} {f:α→α→Bool} (hf:∀ x y,f x y=true→x=y) {x y:Array α} (h:jm f x.toList y.toList=true):x=y:=Array.ext' (bR hf h)
theorem va {x y:Call} (h:sT x y=true):x=y:=by
  unfold sT at h
  split at h
  · simp only [Bool.and_eq_true,decide_eq_true_eq] at h
    rw [h.1.1,sb bY h.1.2,Array.ext' (da h.2)]
  · simp only [Bool.and_eq_true] at h
    rw [bY _ _ h.1.1,sb bY h.1.2,Array.ext' (da h.2)]
  · cases h
theorem xg {x y:Op} (h:x7 x y=true):x=y:=by
  have nb:∀ {a b:Nat},Nat.beq a b=true→a=b:=fun h=>Nat.eq_of_beq_eq_true h
  unfold x7 at h
  split at h
  · rw [bY _ _ h]
  · rw [bY _ _ h]
  · rw [nb h]
  · simp only [Bool.and_eq_true] at h; rw [nb h.1,bY _ _ h.2]
  · simp only [Bool.and_eq_true] at h; rw [nb h.1.1,bY _ _ h.1.2,bY _ _ h.2]
  · simp only [Bool.and_eq_true] at h; rw [nb h.1.1,bY _ _ h.1.2,nb h.2]
  · simp only [Bool.and_eq_true] at h; rw [nb h.1.1,bY _ _ h.1.2,bY _ _ h.2]
  · simp only [Bool.and_eq_true,decide_eq_true_eq] at h; rw [h.1.1.1.1,nb h.1.1.1.2,bY _ _ h.1.1.2,bY _ _ h.1.2,nb h.2]
  · simp only [Bool.and_eq_true] at h
    rw [nb h.1.1,nb h.1.2,sb (fun (a b:Nat×Operand) h=>by
      simp only [Bool.and_eq_true] at h
      exact Prod.ext (nb h.1) (bY _ _ h.2)) h.2]
  · rw [va h]
  · cases h
theorem xh (x y:Edge) (h:x8 x y=true):x=y:=by
  obtain ⟨a,b⟩:=x
  obtain ⟨c,d⟩:=y
  simp only [x8,Bool.and_eq_true,decide_eq_true_eq] at h
  rw [Nat.eq_of_beq_eq_true h.1,h.2]
theorem vb (x y:Oper) (h:sU x y=true):x=y:=by
  obtain ⟨a,b,c,d,e,f⟩:=x
  obtain ⟨a',b',c',d',e',f'⟩:=y
  simp only [sU,Bool.and_eq_true,decide_eq_true_eq] at h
  rw [h.1.1.1.1.1,xg h.1.1.1.1.2,Nat.eq_of_beq_eq_true h.1.1.1.2,h.1.1.2,sb xh h.1.2,h.2]
theorem pS:∀ (x y:Code),dr x y=true→x=y:=by
  intro x
  induction x with
  | skip=>intro y h; cases y <;> first | rfl | cases h
  | region i ops d =>
    intro y h
    cases y <;> first | (cases h; done) | skip
    simp only [dr,Bool.and_eq_true,decide_eq_true_eq] at h
    rw [Nat.eq_of_beq_eq_true h.1.1,sb vb h.1.2,h.2]
  | seq a b iha ihb =>
    intro y h
    cases y <;> first | (cases h; done) | skip
    simp only [dr,Bool.and_eq_true] at h
    rw [iha _ h.1,ihb _ h.2]
  | cond c a b iha ihb =>
    intro y h
    cases y <;> first | (cases h; done) | skip
    simp only [dr,Bool.and_eq_true] at h
    rw [bY _ _ h.1.1,iha _ h.1.2,ihb _ h.2]
  | block i a iha =>
    intro y h
    cases y <;> first | (cases h; done) | skip
    simp only [dr,Bool.and_eq_true] at h
    rw [Nat.eq_of_beq_eq_true h.1,iha _ h.2]
  | loop a iha =>
    intro y h
    cases y <;> first | (cases h; done) | skip
    simp only [dr] at h
    rw [iha _ h]
  | exit i =>
    intro y h
    cases y <;> first | (cases h; done) | skip
    simp only [dr] at h
    rw [Nat.eq_of_beq_eq_true h]
  | ret=>intro y h; cases y <;> first | rfl | cases h
  | _=>intro y h; cases y <;> cases h
theorem wl {x y:aD} (h:vO x y=true):x=y:=by
  obtain ⟨a,b,c,d,e,f,g,p,i,j,k,l,m,n⟩:=x
  obtain ⟨a',b',c',d',e',f',g',p',i',j',k',l',m',n'⟩:=y
  simp only [vO,Bool.and_eq_true] at h
  obtain ⟨⟨⟨⟨⟨⟨⟨⟨⟨⟨⟨⟨⟨h1,h2⟩,h3⟩,h4⟩,h5⟩,h6⟩,h7⟩,h8⟩,h9⟩,h10⟩,h11⟩,h12⟩,h13⟩,h14⟩:=h
  rw [da h1,da h2,da h3,da h4,da h5,da h6,da h7,da h8,da h9,da h10,bR (fun (x y:Nat×Nat) h=>by
    simp only [Bool.and_eq_true] at h
    exact Prod.ext (Nat.eq_of_beq_eq_true h.1) (Nat.eq_of_beq_eq_true h.2)) h11,da h12,da h13,da h14]
theorem tz {α:Type} {f:α→α→Bool} (hf:∀ x y,f x y=true→x=y):∀ {x y:Option α},zm f x y=true→x=y
  | none,none,_=>rfl
  | some _,some _,h=>congrArg some (hf _ _ h)
  | none,some _,h=>by cases h
  | some _,none,h=>by cases h
theorem xi (x y:Ob) (h:x9 x y=true):x=y:=by
  unfold x9 at h
  split at h
  · simp only [Bool.and_eq_true,beq_iff_eq] at h
    rw [h.1.1,Nat.eq_of_beq_eq_true h.1.2,bR (fun _ _ h=>bR (fx 8) h) h.2]
  · simp only [Bool.and_eq_true,beq_iff_eq] at h
    rw [h.1,bR (fun (x y:AV×AV) h=>by
      simp only [Bool.and_eq_true] at h
      exact Prod.ext (fx 8 _ _ h.1) (fx 8 _ _ h.2)) h.2]
  · rfl
  · simp only [Bool.and_eq_true] at h
    rw [tz (fun _ _ h=>bR (fx 8) h) h.1.1.1,Nat.eq_of_beq_eq_true h.1.1.2,bR (fun _ _ h=>tz (fun _ _ h=>bR (fun _ _ h=>bR (fx 8) h) h) h) h.1.2,tz (fun (x y:Nat×AV) h=>by
      simp only [Bool.and_eq_true] at h
      exact Prod.ext (Nat.eq_of_beq_eq_true h.1) (fx 8 _ _ h.2)) h.2]
  · simp only [Bool.and_eq_true] at h
    rw [wl h.1.1.1.1.1,da h.1.1.1.1.2,bR (fx 8) h.1.1.1.2,pS _ _ h.1.1.2,pS _ _ h.1.2,Nat.eq_of_beq_eq_true h.2]
  · cases h
def yV (tab:List (Nat×List AV×AV)) (f:Nat) (args:List AV):Option AV:=(tab.find? fun e=>Nat.beq e.1 f&&jm (q7 12) e.2.1 args).map fun e=>e.2.2
theorem zq {P:Program} {tab:List (Nat×List AV×AV)} (h:∀ e∈tab,bW P e.1 e.2.1 fun x=>x=e.2.2):∀ f args r,yV tab f args=some r→qp P f args r:=by
  intro f args r hr
  unfold yV at hr
  rw [Option.map_eq_some_iff] at hr
  obtain ⟨e,he,rfl⟩:=hr
  have h1:=List.find?_some he
  simp only [Bool.and_eq_true] at h1
  have e1:=Nat.eq_of_beq_eq_true h1.1
  have e2:=bR (fx 12) h1.2
  obtain ⟨r,h2,h3⟩:=h e (List.mem_of_find?_eq_some he)
  rw [← e1,← e2]
  rw [h3] at h2
  exact h2
theorem xj {S S':St} (h:x_ S S'=true):S=S':=by
  unfold x_ at h
  simp only [Bool.and_eq_true] at h
  obtain ⟨t,l,o,b⟩:=S
  obtain ⟨t',l',o',b'⟩:=S'
  simp only at h
  rw [bR (fx 8) h.1.1.1,bR (fun (x y:Nat×List AV) h=>by
    simp only [Bool.and_eq_true] at h
    exact Prod.ext (Nat.eq_of_beq_eq_true h.1) (bR (fx 8) h.2)) h.1.1.2,bR xi h.1.2,Nat.eq_of_beq_eq_true h.2]
theorem vc {S2 S1:St} {X:Prop} (h:ln S2 S1 X):S2=S1∧X:=by
  unfold ln at h
  split at h
  · rename_i he; exact ⟨xj he,h⟩
  · exact h
theorem sc {go:Nat→(St→Prop)→Prop} (hg:∀ i,aj (go i)):∀ {is:List Nat} {S1:St} {X:Prop},sV go is S1 X→X∧∀ i∈is,go i fun S2=>S2=S1
  | [],_,_,h=>⟨h,fun i hi=>by cases hi⟩
  | i::is,S1,X,h=>by
    obtain ⟨S2,h1,h2⟩:=hg i _ h
    obtain ⟨h3,h4⟩:=vc h1
    obtain ⟨h5,h6⟩:=sc hg h4
    refine ⟨h5,fun k hk=>?_⟩
    rcases List.mem_cons.1 hk with rfl | hk
    · exact h2 _ h3
    · exact h6 k hk
theorem ja {pl:aD} {ops:Array Oper} {ws:List Nat} {listed:Array Bool}:∀ {is:List Nat} {k:Nat},g9 pl ops ws listed is=some k→k∈is∧t8 pl ops ws listed k=true∧∃ o,ops[k]?=some o∧sS (cC pl o)=true
  | [],_,h=>by cases h
  | i::is,k,h=>by
    unfold g9 at h
    split at h
    · rename_i hb
      cases h
      simp only [Bool.and_eq_true] at hb
      refine ⟨List.mem_cons_self,hb.2,?_⟩
      have h1:=hb.1
      split at h1
      · rename_i o ho; exact ⟨o,ho,h1⟩
      · cases h1
    · obtain ⟨h1,h2⟩:=ja h
      exact ⟨List.mem_cons_of_mem _ h1,h2⟩
theorem nJ {C:Ctx} {pl:aD} {ops:Array Oper} {i:Nat} {S:St} {K:St→Prop} (h:o5 C pl ops i S K):wi C pl ops i K S:=by
  unfold o5 at h
  unfold wi
  split at h
  · exact False.elim h
  · rename_i o ho
    rw [ho]
    exact h
theorem wm {C:Ctx} (hC:cE C) {pl:aD} {ops:Array Oper} {i:Nat} {S:St} {K K':St→Prop} (h:wi C pl ops i K S) (hk:∀ S,K S→K' S):wi C pl ops i K' S:=by
  unfold wi at h ⊢
  split
  · rename_i ho; rw [ho] at h; exact hk _ h
  · rename_i o ho; rw [ho] at h; exact ug hC h hk
theorem kr {C:Ctx} (hC:cE C) {pl:aD} {ops:Array Oper} {Q:St→Prop}:∀ (n:Nat) (listed:Array Bool) (S:St),Closed ops listed→ev C pl ops (aM ops.toList []) n listed S Q→r_ C pl ops Q n listed S
  | 0,listed,S,_,h=>by
    unfold ev at h
    split at h
    · rename_i he; exact ⟨he,h⟩
    · exact False.elim h
  | n + 1,listed,S,hcl,h=>by
    unfold ev at h
    split at h
    · rename_i he
      exact ⟨fun _=>h,fun i hi=>by rw [he] at hi; cases hi⟩
    · rename_i r rs he
      split at h
      · rename_i k hk
        obtain ⟨hm,hf,o,ho,hez⟩:=ja hk
        rw [← he] at hm
        have h1:=nJ h
        unfold wi at h1
        rw [ho] at h1
        obtain ⟨v,m,hy,hK⟩:=wb hC hez h1
        exact tv hC ho n listed S hcl (tw ho hf) hm hy (kr hC n _ _ (hcl.set hm) hK)
      · have hdet:∀ i,aj (fun K':St→Prop=>o5 C pl ops i S fun S'=>ev C pl ops (aM ops.toList []) n (listed.setIfInBounds i true) S' K'):=fun i=>aj.bind (cH hC) (fun S'=>cu hC n _ S')
        obtain ⟨S1,h1,h2⟩:=hdet r _ h
        obtain ⟨h3,h4⟩:=sc hdet h1
        refine ⟨fun h0=>(by rw [he] at h0; cases h0),fun i hi=>?_⟩
        have hi':=hi
        rw [he] at hi'
        have hgo:o5 C pl ops i S fun S'=>ev C pl ops (aM ops.toList []) n (listed.setIfInBounds i true) S' Q:=by
          rcases List.mem_cons.1 hi' with rfl | hi'
          · exact h2 Q h3
          · obtain ⟨S2,h5,h6⟩:=hdet i _ (h4 i hi')
            exact h6 Q (by rw [h5]; exact h3)
        exact wm hC (nJ hgo) (fun S' h=>kr hC n _ S' (hcl.set hi) h)
def ZR (P:Program) (e:TypeId) (cs:List AV):Prop:=∃ i z,P.info? e=some i∧i.zero=some z∧∀ E,aO E cs z.cells.toList
theorem tA (k:Key) (c:Value):a5 4 k (mw c)=mw c:=by
  unfold mw
  split <;> rfl
theorem nK {P:Program} {e:TypeId} {k:List AV→Prop} (h:a9 P e k):∃ cs,ZR P e cs∧k cs∧∀ k:Key,cs.map (a5 4 k)=cs:=by
  unfold a9 at h
  split at h
  · rename_i i hi
    split at h
    · rename_i z hz
      obtain ⟨h1,h2⟩:=ab h
      rw [ch] at h2
      obtain ⟨i',z',cs,hi',hz',_,he,hcs⟩:=bf (P:=P) (e:=e) (k:=fun cs=>cs=z.cells.toList.map mw) (by
        unfold a9
        rw [hi]
        dsimp only
        rw [hz]
        dsimp only
        refine af h1 ?_
        rw [ch])
      subst he
      refine ⟨_,⟨i',z',hi',hz',hcs⟩,h2,fun k=>?_⟩
      rw [List.map_map]
      exact List.map_congr_left fun c _=>tA k c
    · exact False.elim h
  · exact False.elim h
theorem ad.drawn {G:Gh} {p:Nat→Option (List AV)} {E:Env} {S:St} {w:World} {n:Nat} (h:ad G p E S w):ad G p E S { w with drawn:=n } :=
  ⟨h.hp,h.os,h.tape,h.output,h.size,h.keep,h.F0,h.Flt,h.Fnew,h.own,h.inj,h.loc,h.obj,h.old,h.bl,h.szs,h.pk,h.ow⟩
theorem c_.congr {p p':Nat→Option (List AV)} {E:Env} {x:Option (List AV)} {d:Nat} (h:c_ p E x d) (hp:p' d=p d):c_ p' E x d:=by
  unfold c_ at *
  cases x with
  | none=>exact h
  | some row =>
    rcases h with h | ⟨h1,h2,h3⟩
    · exact .inl h
    · exact .inr ⟨h1,hp.trans h2,h3⟩
def fy (o:Oper) (p:Nat→Option (List AV)):Nat→Option (List AV) :=
  match o.op,o.dst with
  | .alloc _,some d=>fun x=>if x=d then none else p x
  | _,_=>p
theorem fA {o:Oper} {p:Nat→Option (List AV)} (h:∀ e,o.op≠.alloc e):fy o p=p:=by
  unfold fy
  split
  · rename_i e d ho _
    exact (h _ ho).elim
  · rfl
theorem gI {o:Oper} {p:Nat→Option (List AV)} {e:TypeId} {d:Nat} (h:o.op=.alloc e) (hd:o.dst=some d):fy o p=fun x=>if x=d then none else p x:=by
  unfold fy
  rw [h,hd]
section
variable {G:Gh} {p:Nat→Option (List AV)} {E:Env} {S:St} {w:World} {C:Ctx} {pl:aD} {o:Oper} {a:Act} {K:St→Prop}
theorem qL {d:Nat} {e:TypeId} {cs:List AV} (hM:ad G p E S w) (ht:TR G E S.t a) (ho:o.op=.alloc e) (hd:o.dst=some d) (hp:p d=some cs) (hz:ZR C.P e cs) (hpos:0<cs.length)
    (h:K (fa S (some d) (.ptr (.L d) 0 0))) (next:Act→World→Prop) (Q:Exit→Act→World→Prop)
    (hn:∀ S' E' a' w',K S'→ad G (fy o p) E' S' w'→TR G E' S'.t a'→next a' w'):o.wp C.P a w next Q:=by
  obtain ⟨i,z,hi,hz,hcs⟩:=hz
  obtain ⟨hmu,hrow⟩:=hM.pk d cs hp
  have hrun:(execOp a.eval o).run C.P w=.ok (.value (.pointer (some ⟨w.heap.size,0,none⟩))) { w with heap:=w.heap.push (.cells z.cells e) }:=by
    simp [execOp,ho,Instr.alloc,bg hi hz,ju]
  refine bk hrun ?_
  have arr:∀ {E1:Env},aO E1 cs z.cells.toList→aX E1 (w.heap.push (.cells z.cells e)) [cs] w.heap.size 0 cs.length:=by
    intro E1 hcs1
    refine aX.of_rows hpos (fun r hr=>by simp at hr; subst hr; rfl) (bu w _) (by have:=hcs1.1; simp at this; simp; omega) (fun i row r c h1 h2=>?_)
    cases i with
    | zero =>
      simp at h1
      subst h1
      obtain ⟨u,hu,hv⟩:=hcs1.get h2
      exact ⟨u,by simpa using hu,hv⟩
    | succ i=>simp at h1
  rw [gI ho hd] at hn
  obtain ⟨hle,hS⟩:=hM.newkey' (p':=fun x=>if x=d then none else p x) (ob:=.cells z.cells e) (key:=.L d) (sz:=cs.length) (n:=1) (fun x hx=>if_neg fun h=>hx (by rw [h])) (fun x hx=>by cases hx; exact if_pos rfl) hmu
    (M':=S) (fun _ _=>rfl) (fun _ _=>rfl) rfl hM.bl (fun id he=>by cases he)
    (fun e he hle=>by
      cases he
      rw [hrow]
      refine .inl ⟨w.heap.size,?_,arr (hcs _)⟩
      show ai E.mu (.L d) _ (.L d)=_
      unfold ai
      rw [if_pos rfl])
    (fun id he=>by cases he) s0
  refine hn _ _ _ _ h (hS.congr aV aW a2) ?_
  have:=(ht.mono hle).put (S:=S) (dst:=o.dst) (c:=.ptr (.L d) 0 0) (u:=.pointer (some ⟨w.heap.size,0,none⟩)) (by
    have hmu':ai E.mu (.L d) (.blk w.heap.size 0 cs.length 1) (.L d)=some (.blk w.heap.size 0 cs.length 1):=by unfold ai; rw [if_pos rfl]
    have:=VR.ptr (E:=⟨E.F,ai E.mu (.L d) (.blk w.heap.size 0 cs.length 1),w.heap.push (.cells z.cells e)⟩) 0 0 rfl hmu'
    simpa using this)
  rw [hd] at this ⊢
  exact this
theorem vd {e:TypeId} (ho:o.op=.alloc e):cC pl o=4:=by
  have hw:cK pl o=false:=by unfold cK; rw [ho]
  unfold cC
  rw [hw]
  dsimp only
  unfold o4
  rw [ho]
theorem sd {C:Ctx} (hC:bH C) {pl:aD} {o:Oper} {S:St} {K:St→Prop} {G:Gh} {pd:Nat→Option (List AV)} {E:Env} {w:World} {a:Act} {c:Call} (hM:ad G pd E S w) (ht:TR G E S.t a) (ho:o.op=.call c) (h:iX C pl o S K):bv C.P G pd o a w K:=by
  unfold iX at h
  obtain ⟨vs,h,hv⟩:=bj ht h
  have hw:cK pl o=false:=by unfold cK; rw [ho]
  unfold gq at h
  rw [hw] at h
  dsimp only at h
  unfold fK at h
  rw [ho] at h hv
  split at h
  · rename_i he; cases he
  · rename_i c' fid first cap as he
    cases he
    split at h
    · rename_i x hcal
      obtain ⟨h1,h⟩:=ab h
      simp only [Bool.and_eq_true] at h1
      have hv:aO E (.fn fid first cap::as) (a.eval x::c.args.toList.map a.eval):=by simpa [Op.operands,Call.operands,hcal] using hv
      obtain ⟨u,us,e,hf,has⟩:=hv.uncons
      cases e
      obtain ⟨g1,g2⟩:=hC.scall _ _ _ _ h
      refine lF hM ht ho hcal hf has h1.2 ⟨g1,fun E w us hM hg hv=>(g2 E w us hM hg hv).mono ?_⟩
      rintro e w' ⟨v,r,o',E',hk,rest⟩
      obtain ⟨h4,h5⟩:=ab hk
      refine ⟨v,r,o',E',?_,rest⟩
      have h4:aF S.o o' 0=[]:=List.isEmpty_iff.1 h4
      show dq (aF S.o o' 0) S.t S.l _
      rw [h4]
      exact h5
    · exact h.elim
  · rename_i hne
    unfold oZ at h
    rw [ho] at h
    exact h.elim
theorem se {C:Ctx} (hC:bH C) {pl:aD} {o:Oper} {S:St} {K:St→Prop} {G:Gh} {pd:Nat→Option (List AV)} {E:Env} {w:World} {a:Act} (hM:ad G pd E S w) (ht:TR G E S.t a) (h:iX C pl o S K):bv C.P G pd o a w K:=by
  cases hw:cK pl o with
  | true =>
    refine m7 (pl:=pl) hM ht ?_
    unfold iX at h
    unfold qc
    have e:∀ vs M k,gq C pl o vs M k=fF C.P pl o vs M k:=fun vs M k=>by unfold gq; rw [hw]
    simp only [e] at h
    exact h
  | false =>
  have e:∀ vs M k,gq C pl o vs M k=fK C o vs M k:=fun vs M k=>by unfold gq; rw [hw]
  by_cases hmk:pN pl o
  · rcases hmk with (⟨t,X,Y,ho⟩ | ⟨c,ho⟩) | hmk
    rotate_left
    · exact sd hC hM ht ho h
    · rw [hw] at hmk; cases hmk
    refine gS (bx:=false) hM ht ho ?_
    unfold iX at h
    simp only [e] at h
    rw [ho] at h
    have h':a_ S X fun l=>a_ S Y fun c=>aJ C.P t l c (bp S) fun M' r=>aA o.dst r (cq S M') K:=by
      have h:a_ S X fun l=>a_ S Y fun c=>fK C o [l,c] (bp S) fun r M=>aA o.dst r (cq S M) K:=h
      obtain ⟨l,h1,h2⟩:=aS _ h
      obtain ⟨c,h3,h4⟩:=aS _ h1
      refine h2 (fun l=>a_ S Y fun c=>aJ C.P t l c (bp S) fun M' r=>aA o.dst r (cq S M') K) (h4 (fun c=>aJ C.P t l c (bp S) fun M' r=>aA o.dst r (cq S M') K) ?_)
      unfold fK at h3
      rw [ho] at h3
      exact h3
    obtain ⟨l,h1,h2⟩:=aS _ h'
    obtain ⟨c,h3,h4⟩:=aS _ h1
    refine h2 (fun l=>a_ S Y fun c=>aJ C.P t l c S fun S' r=>aA o.dst r S' K) (h4 (fun c=>aJ C.P t l c S fun S' r=>aA o.dst r S' K) ?_)
    unfold aJ at h3 ⊢
    exact h3
  · refine m_ hM ht ?_
    unfold iX at h
    unfold uJ
    obtain ⟨vs,h1,h2⟩:=aw _ h
    refine h2 (fun vs=>oZ C o vs (bp S) fun r M=>aA o.dst r (cq S M) K) ?_
    rw [jI hmk] at h1
    exact h1
theorem ve (hC:bH C) (hM:ad G p E S w) (ht:TR G E S.t a) (hA:∀ e d,o.op=.alloc e→o.dst=some d→∃ cs,p d=some cs∧0<cs.length∧ZR C.P e cs) (h:oe C pl o S K) (next:Act→World→Prop) (Q:Exit→Act→World→Prop)
    (hn:∀ S' E' a' w',K S'→ad G (fy o p) E' S' w'→TR G E' S'.t a'→next a' w'):o.wp C.P a w next Q:=by
  by_cases hal:∃ e,o.op=.alloc e
  · obtain ⟨e,ho⟩:=hal
    unfold oe at h
    rw [vd ho] at h
    have h':match o.dst with
      | some d=>aA o.dst (.ptr (.L d) 0 0) S K
      | none=>ac 217:=h
    split at h'
    · rename_i d hd
      obtain ⟨cs,h3,h4,h5⟩:=hA e d ho hd
      rw [al,hd] at h'
      exact qL hM ht ho hd h3 h5 h4 h' next Q hn
    · exact False.elim h'
  · rw [fA (fun e he=>hal ⟨e,he⟩)] at hn
    unfold oe at h
    split at h
    · exact m8 hM ht h next Q hn
    · exact m9 hC hM ht h next Q hn
    · exact se hC hM ht h next Q hn
    · rename_i hc
      exfalso
      unfold cC at hc
      rw [pQ (by unfold cC; rw [hc]; decide)] at hc
      dsimp only at hc
      unfold o4 at hc
      split at hc
      · split at hc <;> cases hc
      · rename_i e ho; exact hal ⟨e,ho⟩
      · split at hc <;> cases hc
      · split at hc
        · split at hc
          · cases hc
          · split at hc <;> cases hc
        · split at hc <;> cases hc
        · split at hc <;> cases hc
        · unfold vM at hc
          split at hc <;> try (cases hc; done)
          all_goals (split at hc <;> cases hc)
      · unfold vM at hc
        split at hc <;> try (cases hc; done)
        all_goals (split at hc <;> cases hc)
    · exact s5 hM ht h next Q hn
    · split at h
      · exact False.elim h
      · rename_i hb
        exact pB hC (fun he=>by rw [hb] at he; cases he) hM ht h next Q hn
end
def Inv (P:Program) (p:Nat→Option (List AV)) (ops:Array Oper) (listed:Array Bool):Prop :=
  ∀ (i:Nat) (o:Oper) (e:TypeId) (d:Nat),ops[i]?=some o→o.op=.alloc e→o.dst=some d→listed.getD i true=false→∃ cs,p d=some cs∧0<cs.length∧ZR P e cs
def qM (ops:Array Oper):Prop:=∀ (i i':Nat) (o o':Oper) (e e':TypeId) (d:Nat),ops[i]?=some o→ops[i']?=some o'→o.op=.alloc e→o'.op=.alloc e'→o.dst=some d→o'.dst=some d→i=i'
theorem tD {listed:Array Bool} {i:Nat}:(listed.setIfInBounds i true).getD i true=true:=by
  simp only [Array.getD_eq_getD_getElem?,Array.getElem?_setIfInBounds,if_pos]
  split <;> rfl
theorem Inv.step {P:Program} {p:Nat→Option (List AV)} {ops:Array Oper} {listed:Array Bool} {i:Nat} {o:Oper} (h:Inv P p ops listed) (hap:qM ops) (hi:ops[i]?=some o) :
    Inv P (fy o p) ops (listed.setIfInBounds i true):=by
  intro j oj e d hj hoj hdj hjun
  have hij:i≠j:=fun he=>by subst he; rw [tD] at hjun; cases hjun
  rw [getD_set_ne true hij] at hjun
  obtain ⟨cs,h1,h2⟩:=h j oj e d hj hoj hdj hjun
  refine ⟨cs,?_,h2⟩
  by_cases hal:∃ e,o.op=.alloc e
  · obtain ⟨e',ho⟩:=hal
    cases hd:o.dst with
    | none =>
      unfold fy
      rw [ho,hd]
      exact h1
    | some d' =>
      rw [gI ho hd]
      show (if d=d' then none else p d)=_
      rw [if_neg (fun he=>by subst he; exact hij (hap i j o oj e' e d hi hj ho hoj hd hdj))]
      exact h1
  · rw [fA (fun e he=>hal ⟨e,he⟩)]
    exact h1
theorem tE {o:Oper} {p:Nat→Option (List AV)} {d:Nat} (h:fy o p d≠none):p d≠none:=by
  by_cases hal:∃ e,o.op=.alloc e
  · obtain ⟨e',ho⟩:=hal
    cases hd:o.dst with
    | none =>
      unfold fy at h
      rw [ho,hd] at h
      exact h
    | some d' =>
      rw [gI ho hd] at h
      intro hn
      apply h
      show (if d=d' then none else p d)=none
      split
      · rfl
      · exact hn
  · rw [fA (fun e he=>hal ⟨e,he⟩)] at h
    exact h
def Q0 (Q:Exit→Act→World→Prop) (e:Exit) (a:Act) (w:World):Prop:=e=.normal∧Q .normal a w
theorem yW {P:Program} {o:Oper} {a:Act} {w:World} {next:Act→World→Prop} {Q:Exit→Act→World→Prop} (h:o.wp P a w next (Q0 Q)):o.wp P a w next Q:=by
  unfold Oper.wp at *
  revert h
  generalize (execOp a.eval o).run P w=x
  intro h
  cases x with
  | ok x w' =>
    cases x with
    | enter f args=>exact Calls.mono h (fun e w'' he=>by
        cases e with
        | returned v=>exact he
        | panicked c=>exact absurd he.1 (fun h=>by cases h)
        | outgrown=>obtain ⟨_,_,h,_⟩:=he; cases h)
    | _=>exact h
  | halt x w' =>
    cases x with
    | panic v=>exact absurd h.1 (fun h=>by cases h)
    | _=>exact h
theorem wn {ops:Array Oper} (h:zn ops=true):Region.noSelect ops=true∧∀ (i:Nat) (o:Oper),ops[i]?=some o→∀ c,o.op≠.defer c:=by
  unfold zn at h
  rw [Bool.and_eq_true] at h
  refine ⟨h.1,fun i o ho c hc=>?_⟩
  have:=List.all_eq_true.1 h.2 o (by rw [Array.mem_toList_iff]; exact Array.mem_of_getElem? ho)
  rw [hc] at this
  cases this
theorem ku {P:Program} {rr:Option Nat} {ops:Array Oper} {Q:Exit→Act→World→Prop} (hnd:∀ (i:Nat) (o:Oper),ops[i]?=some o→∀ c,o.op≠.defer c) :
    ∀ (fuel:Nat) (listed:Array Bool) (a:Act) (w:World),wpAny P .any ops (Q0 Q) fuel listed a w→wpAnyIn (rd rr) 0 P .any ops Q fuel listed a w
  | 0,_,_,_,h=>⟨h.1,h.2.2⟩
  | fuel + 1,listed,a,w,h=>by
    refine ⟨fun h0=>(h.1 h0).2,fun i hi=>?_⟩
    have h1:=h.2 i hi
    unfold wpOpIn
    unfold wpOp at h1
    split at h1
    · rename_i ho
      rw [ho]
      exact ku hnd fuel _ _ _ h1
    · rename_i o ho
      rw [ho]
      dsimp only
      split at h1
      · rename_i hw
        rw [if_pos hw]
        rcases h1 with h1 | ⟨_,_,_,h1,_⟩
        · exact pD (hnd i o ho) (yW (Oper.wp_mono (fun a w h=>ku hnd fuel _ _ _ h) h1))
        · cases h1
      · rename_i hw
        rw [if_neg hw]
        exact ⟨fun _ _=>trivial,ku hnd fuel _ _ _ h1⟩
theorem gJ {C:Ctx} (hC:bH C) {pl:aD} {ops:Array Oper} {G:Gh} {A:Nat→Prop} {Q:St→Prop} {Qc:Exit→Act→World→Prop} (hap:qM ops) (hg:∀ (i:Nat) (o:Oper) (e:TypeId),ops[i]?=some o→o.op=.alloc e→o.guard=none)
    (hQ:∀ p S' E' a' w',(∀ d,p d≠none→A d)→Q S'→ad G p E' S' w'→TR G E' S'.t a'→Qc .normal a' w') :
    ∀ (fuel:Nat) (listed:Array Bool) (p:Nat→Option (List AV)) (S:St) (E:Env) (a:Act) (w:World),(∀ d,p d≠none→A d)→ad G p E S w→TR G E S.t a→Inv C.P p ops listed→r_ C pl ops Q fuel listed S→wpAny C.P .any ops Qc fuel listed a w
  | 0,_,_,_,_,_,_,hA,hM,ht,_,h=>⟨h.1,hQ _ _ _ _ _ hA h.2 hM ht⟩
  | fuel + 1,listed,p,S,E,a,w,hA,hM,ht,hI,h=>by
    refine ⟨fun h0=>hQ _ _ _ _ _ hA (h.1 h0) hM ht,fun i hi=>?_⟩
    have h1:=h.2 i hi
    obtain ⟨hun,o,ho,_⟩:=mem_ready.1 hi
    unfold wi at h1
    unfold wpOp
    rw [ho] at h1 ⊢
    dsimp only at h1 ⊢
    have goon:∀ S' E' a' w',r_ C pl ops Q fuel (listed.setIfInBounds i true) S'→ad G (fy o p) E' S' w'→TR G E' S'.t a'→wpAny C.P .any ops Qc fuel (listed.setIfInBounds i true) a' w' :=
      fun S' E' a' w' hk hS htr=>gJ hC hap hg hQ fuel _ _ S' E' a' w' (fun d hd=>hA d (tE hd)) hS htr (hI.step hap ho) hk
    have step:∀ {S1:St},ad G p E S1 w→TR G E S1.t a→jl C pl ops o S1 (r_ C pl ops Q fuel (listed.setIfInBounds i true))→Region.wanted o (yielded ops a.tmps)=true→(if Region.wanted o (yielded ops a.tmps) then o.wp C.P a w (wpAny C.P .any ops Qc fuel (listed.setIfInBounds i true)) Qc∨(o.asks C.P a w∧LetsOut Qc) else wpAny C.P .any ops Qc fuel (listed.setIfInBounds i true) (a.put o.dst undef) w):=by
      intro S1 hM1 ht1 h hw
      obtain ⟨_,h⟩:=ab h
      rw [if_pos hw]
      exact .inl (ve hC hM1 ht1 (fun e d h1 h2=>hI i o e d ho h1 h2 hun) h _ _ goon)
    unfold ag at h1
    split at h1
    · rename_i hgd
      exact step hM ht h1 (by unfold Region.wanted; rw [hgd])
    · rename_i j want hgd
      split at h1
      · exact False.elim h1
      · rename_i d hd
        obtain ⟨b,S1,h1,hb,hM1,ht1⟩:=eN hM ht h1
        rcases fO hgd (gD hd hb) h1 with ⟨hw,h1⟩ | ⟨hw,h1⟩
        · exact step hM1 ht1 h1 hw
        · rw [al] at h1
          rw [if_neg (by rw [hw]; exact fun h=>by cases h)]
          have hnal:∀ e,o.op≠.alloc e:=fun e he=>by
            have:=hg i o e ho he
            rw [hgd] at this
            cases this
          refine goon _ E _ w h1 ?_ (ht1.put (ki _))
          rw [fA hnal]
          exact hM1.congr aV aW a2
theorem tF {pl:aD} {o:Oper} (h:kN o=true):cC pl o=0∧o.guard=none∧(∀ t len parts,o.op≠.buildSlice t len parts)∧∀ e,o.op≠.alloc e:=by
  unfold kN at h
  split at h
  · cases h
  · rename_i hg
    split at h
    all_goals first
      | (rename_i ho; refine ⟨?_,hg,fun _ _ _ he=>(by rw [ho] at he; cases he),fun _ he=>(by rw [ho] at he; cases he)⟩; unfold cC cK; rw [ho]; dsimp only; unfold o4; rw [ho]; dsimp only; unfold vM; rw [ho])
      | cases h
theorem tH {C:Ctx} {pl:aD} {o:Oper} {vs:List AV} {k:AV→Prop} {E:Env} {a:Act} (hp:kN o=true) (h:pop C pl o vs k) (hv:aO E vs (o.op.operands.toList.map a.eval)):∃ r z,k r∧VR E r z∧∀ w,(execOp a.eval o).run C.P w=.ok (.value z) w:=by
  unfold kN at hp
  split at hp
  · cases hp
  · split at hp
    · rename_i x ho
      rw [ho] at hv
      unfold pop at h
      rw [ho] at h
      split at h <;> rename_i he <;> first | (cases he; done) | skip
      all_goals first
        | (cases he
           obtain ⟨u,us,e,hc,hn⟩:=hv.uncons
           simp [Op.operands] at e
           exact ⟨_,_,h,hc,fun w=>by simp [execOp,ho,e.1]⟩)
        | exact h.elim
    · rename_i x ho
      rw [ho] at hv
      unfold pop at h
      rw [ho] at h
      split at h <;> rename_i he <;> first | (cases he; done) | skip
      all_goals first
        | (cases he
           obtain ⟨u,us,e,hc,hn⟩:=hv.uncons
           simp [Op.operands] at e
           exact ⟨_,_,h,hc,fun w=>by simp [execOp,ho,e.1]⟩)
        | exact h.elim
    · rename_i x ho
      rw [ho] at hv
      unfold pop at h
      rw [ho] at h
      split at h <;> rename_i he <;> first | (cases he; done) | skip
      all_goals first
        | (cases he
           obtain ⟨u,us,e,hc,hn⟩:=hv.uncons
           simp [Op.operands] at e
           have hc0:=hc
           cases hc with
           | ptr _ _ hs0 hm=>exact ⟨_,_,h,hc0,fun w=>by simp [execOp,ho,e.1]⟩)
        | (cases he
           obtain ⟨u,us,e,hc,hn⟩:=hv.uncons
           simp [Op.operands] at e
           have hc0:=hc
           cases hc with
           | fptr _ us h1 h2 h3 h4=>exact ⟨_,_,h,hc0,fun w=>by simp [execOp,ho,e.1]⟩)
        | (cases he
           obtain ⟨u,us,e,hc,hn⟩:=hv.uncons
           simp [Op.operands] at e
           have hc0:=hc
           cases hc with
           | fn us ws h1 h2 h3 h4=>exact ⟨_,_,h,hc0,fun w=>by simp [execOp,ho,e.1]⟩)
        | exact h.elim
    · rename_i t x f ho
      rw [ho] at hv
      unfold pop at h
      rw [ho] at h
      split at h <;> rename_i he <;> first | (cases he; done) | skip
      all_goals first
        | (cases he
           obtain ⟨u,us,e,hc,hn⟩:=hv.uncons
           simp [Op.operands] at e
           obtain ⟨r,z,hk,hr,hrun⟩:=gQ h hc
           exact ⟨r,z,hk,hr,fun w=>by simp [execOp,ho,e.1,hrun w]⟩)
        | exact h.elim
    · cases hp
theorem jb {ops:Array Oper} {listed:Array Bool}:∀ {is:List Nat} {i:Nat},hH ops listed is=some i→i∈is∧∃ o,ops[i]?=some o∧kN o=true∧Region.free .any ops listed i=true
  | [],_,h=>by cases h
  | j::js,i,h=>by
    unfold hH at h
    split at h
    · rename_i hb
      cases h
      rw [Bool.and_eq_true] at hb
      obtain ⟨h1,h2⟩:=hb
      split at h1
      · rename_i o ho
        exact ⟨List.mem_cons_self,o,ho,h1,h2⟩
      · cases h1
    · obtain ⟨h1,h2⟩:=jb h
      exact ⟨List.mem_cons_of_mem _ h1,h2⟩
theorem nL {C:Ctx} (hD:cE C) (hC:bH C) {pl:aD} {ops:Array Oper} {G:Gh} {A:Nat→Prop} {Q:St→Prop} {Qc:Exit→Act→World→Prop} (hs:Region.noSelect ops=true) (hap:qM ops) (hg:∀ (i:Nat) (o:Oper) (e:TypeId),ops[i]?=some o→o.op=.alloc e→o.guard=none)
    (hQ:∀ p S' E' a' w',(∀ d,p d≠none→A d)→Q S'→ad G p E' S' w'→TR G E' S'.t a'→Q0 Qc .normal a' w') :
    ∀ (fuel:Nat) (listed:Array Bool) (p:Nat→Option (List AV)) (S:St) (E:Env) (a:Act) (w:World),(∀ d,p d≠none→A d)→ad G p E S w→TR G E S.t a→Inv C.P p ops listed→Closed ops listed→lY C pl ops (aM ops.toList []) fuel listed S Q→wpAny C.P .any ops (Q0 Qc) fuel listed a w
  | 0,listed,p,S,E,a,w,hA,hM,ht,hI,hcl,h=>gJ hC hap hg hQ 0 listed p S E a w hA hM ht hI (kr hD 0 listed S hcl h)
  | fuel + 1,listed,p,S,E,a,w,hA,hM,ht,hI,hcl,h=>by
    unfold lY at h
    split at h
    · rename_i i hi
      obtain ⟨hm,o,ho,hp,hf⟩:=jb hi
      obtain ⟨hc0,hgd,_,hnal⟩:=tF (pl:=pl) hp
      unfold o5 at h
      rw [ho] at h
      dsimp only at h
      unfold ag at h
      rw [hgd] at h
      obtain ⟨_,h⟩:=ab h
      unfold oe at h
      rw [hc0] at h
      obtain ⟨vs,h,hv⟩:=bj ht h
      obtain ⟨r,z,hk,hr,hrun⟩:=tH hp h hv
      rw [al] at hk
      refine wpAny_take ho hs hf (by simpa using hm) (fun c a w hq=>absurd hq.1 (fun h=>by cases h)) (v:=z) (.inl ⟨by unfold Region.wanted; rw [hgd],hrun⟩) ?_
      have hI':=hI.step hap ho
      rw [fA hnal] at hI'
      exact nL hD hC hs hap hg hQ fuel _ p _ E _ w hA (hM.congr aV aW a2) (ht.put hr) hI' (hcl.set hm) hk
    · exact gJ hC hap hg hQ (fuel + 1) listed p S E a w hA hM ht hI (kr hD (fuel + 1) listed S hcl h)
theorem nM {o:Oper} {e:TypeId} {d:Nat} (h1:o.op=.alloc e) (h2:o.dst=some d):∀ {os:List Oper},o∈os→(d,e)∈a7 os:=by
  intro os
  induction os with
  | nil=>intro h; cases h
  | cons x xs ih =>
    intro h
    rcases List.mem_cons.1 h with rfl | h
    · unfold a7
      rw [h1,h2]
      exact List.mem_cons_self
    · have:=ih h
      unfold a7
      split
      · exact List.mem_cons_of_mem _ this
      · exact this
theorem sf {d:Nat}:∀ {xs:List Nat},d∈xs→bh xs d=true:=by
  intro xs
  induction xs with
  | nil=>intro h; cases h
  | cons x xs ih =>
    intro h
    rcases List.mem_cons.1 h with rfl | h
    · simp [bh]
    · simp [bh,ih h]
theorem sg {pl:aD} {x:Oper} {xs:List Oper} (hB:eM pl (a7 (x::xs))=true):eM pl (a7 xs)=true:=by
  unfold a7 at hB
  split at hB
  · unfold eM at hB
    simp only [Bool.and_eq_true] at hB
    exact hB.2
  · exact hB
theorem kw {pl:aD} {o o':Oper} {e e':TypeId} {d:Nat} (h3:o.op=.alloc e) (h4:o'.op=.alloc e') (h5:o.dst=some d) (h6:o'.dst=some d):∀ (os:List Oper),eM pl (a7 os)=true→∀ (i i':Nat),i<i'→os[i]?=some o→os[i']?=some o'→False:=by
  intro os
  induction os with
  | nil=>intro _ i i' _ h1; simp at h1
  | cons x xs ih =>
    intro hB i i' hlt h1 h2
    cases i' with
    | zero=>omega
    | succ i' =>
      rw [List.getElem?_cons_succ] at h2
      cases i with
      | zero =>
        rw [List.getElem?_cons_zero] at h1
        cases h1
        have hm:=nM h4 h6 (List.mem_of_getElem? h2)
        unfold a7 at hB
        rw [h3,h5] at hB
        unfold eM at hB
        simp only [Bool.and_eq_true,Bool.not_eq_true'] at hB
        have:=sf (d:=d) (xs:=(a7 xs).map (·.1)) (List.mem_map.2 ⟨_,hm,rfl⟩)
        rw [hB.1.2] at this
        cases this
      | succ i =>
        rw [List.getElem?_cons_succ] at h1
        exact ih (sg hB) i i' (by omega) h1 h2
theorem sh {o:Oper} {e:TypeId} (ho:o.op=.alloc e):∀ {os:List Oper},mi os=true→o∈os→o.guard=none:=by
  intro os
  induction os with
  | nil=>intro _ h; cases h
  | cons x xs ih =>
    intro h hm
    unfold mi at h
    simp only [Bool.and_eq_true] at h
    rcases List.mem_cons.1 hm with rfl | hm
    · have h1:=h.1
      cases hg:o.guard with
      | none=>rfl
      | some g=>rw [ho,hg] at h1; cases h1
    · exact ih h.2 hm
section
variable {G:Gh} {w:World} {a:Act} {P:Program}
theorem lM:∀ {ds:List Nat} {E:Env} {S:St} {K:St→Prop},ad G pn E S w→TR G E S.t a→gn ds S K→∃ S' E',K S'∧ad G pn E' S' w∧TR G E' S'.t a∧∀ d,(E.mu (.L d)=none∨d∈ds)→E'.mu (.L d)=none
  | [],E,S,K,hM,ht,h=>⟨S,E,h,hM,ht,fun d hd=>by rcases hd with hd | hd; exact hd; cases hd⟩
  | d::ds,E,S,K,hM,ht,h=>by
    unfold gn at h
    rw [po] at h
    obtain ⟨E1,h1,h2,h3,_,_,_,_,h4,_,_⟩:=jt hM ht d rfl
    obtain ⟨S',E',h5,h6,h7,h8⟩:=lM h1 h2 h
    refine ⟨S',E',h5,h6,h7,fun e he=>h8 e ?_⟩
    by_cases hed:e=d
    · subst hed; exact .inl h3
    · rcases he with he | he
      · exact .inl ((h4 e hed).trans he)
      · rcases List.mem_cons.1 he with he | he
        · exact absurd he hed
        · exact .inr he
theorem pT {pl:aD} {E:Env}:∀ {xs:List (Nat×TypeId)} {S:St} {p:Nat→Option (List AV)} {K:St→Prop},ad G p E S w→(∀ d∈xs.map (·.1),E.mu (.L d)=none)→eM pl xs=true→qf P xs S K →
    ∃ S' p',K S'∧ad G p' E S' w∧S'.t=S.t∧(∀ d e,(d,e)∈xs→∃ cs,p' d=some cs∧0<cs.length∧ZR P e cs)∧∀ d,d ∉ xs.map (·.1)→p' d=p d
  | [],S,p,K,hM,_,_,h=>⟨S,p,h,hM,rfl,fun _ _ h=>(by cases h),fun _ _=>rfl⟩
  | (d,e)::xs,S,p,K,hM,hmu,hB,h=>by
    unfold qf at h
    obtain ⟨cs,hz,h,hinv⟩:=nK h
    replace h:=ab h; obtain ⟨hpos,h⟩:=h
    have hpos':0<cs.length:=Nat.le_of_ble_eq_true hpos
    have hd0:=hmu d (by simp)
    unfold eM at hB
    simp only [Bool.and_eq_true,Bool.not_eq_true'] at hB
    have hnd:d ∉ xs.map (·.1):=fun hm=>by
      have:=sf hm
      rw [hB.1.2] at this
      cases this
    have hM1:ad G (fun x=>if x=d then some cs else p x) E { t:=S.t,l:=(d,cs)::S.l,o:=S.o,b:=S.b } w :=
      ⟨hM.hp,hM.os,hM.tape,hM.output,hM.size,hM.keep,hM.F0,hM.Flt,hM.Fnew,hM.own,hM.inj,fun x=>by
        show c_ _ E (if d=x then some cs else ap S.l x) x
        by_cases hx:d=x
        · subst hx
          rw [if_pos rfl]
          exact .inr ⟨hd0,by simp,hinv⟩
        · rw [if_neg hx]
          exact (hM.loc x).congr (if_neg fun h=>hx h.symm),hM.obj,hM.old,hM.bl,hM.szs,fun x row hx=>by
        show E.mu (.L x)=none∧(if d=x then some cs else ap S.l x)=some row
        by_cases hxd:x=d
        · subst hxd
          rw [if_pos rfl] at hx ⊢
          exact ⟨hd0,hx⟩
        · rw [if_neg hxd] at hx
          rw [if_neg (fun h=>hxd h.symm)]
          exact hM.pk x row hx,hM.ow⟩
    obtain ⟨S',p',h1,h2,h3,h4,h5⟩:=pT (xs:=xs) hM1 (fun x hx=>hmu x (by simp only [List.map_cons]; exact List.mem_cons_of_mem _ hx)) hB.2 h
    refine ⟨S',p',h1,h2,h3,fun x y hxy=>?_,fun x hx=>?_⟩
    · rcases List.mem_cons.1 hxy with hxy | hxy
      · cases hxy
        refine ⟨cs,?_,hpos',hz⟩
        rw [h5 d hnd]
        simp
      · exact h4 x y hxy
    · have hx':x≠d∧x ∉ xs.map (·.1):=⟨fun he=>hx (by rw [he]; simp),fun hm=>hx (by simp only [List.map_cons]; exact List.mem_cons_of_mem _ hm)⟩
      rw [h5 x hx'.2]
      simp [hx'.1]
theorem pU:∀ {xs:List (Nat×TypeId)} {S:St} {X:Prop},e_ xs S X→∀ d∈xs.map (·.1),∃ i j,S.t[d]?=some (.ptr (.L d) i j)
  | [],_,_,_,d,hd=>by cases hd
  | (d0,e)::xs,S,X,h,d,hd=>by
    unfold e_ at h
    obtain ⟨c,hc,h⟩:=aY.1 h
    split at h
    · rename_i d' i j
      obtain ⟨hb,h⟩:=ab h
      simp only [List.map_cons] at hd
      rcases List.mem_cons.1 hd with rfl | hd
      · have:=Nat.eq_of_beq_eq_true hb
        subst this
        exact ⟨i,j,hc⟩
      · exact pU h d hd
    · exact False.elim h
end
theorem uh {C:Ctx} (hmix:C.P.follows .mixedOrders=true) (hD:cE C) (hC:bH C):fh C:=by
  intro pl id ops S K h r G E a w Q hM ht hQ
  have h':aB (lq pl ops) (ot C.P (a7 ops.toList) S fun S1=>oq C pl ops S1 fun S'=>e_ (a7 ops.toList) S' (eG pl id S' fun S''=>K .nrm S'')):=h
  obtain ⟨hB,h1⟩:=ab h'
  unfold lq at hB
  simp only [Bool.and_eq_true] at hB
  obtain ⟨hal,hgd⟩:=hB
  unfold ot at h1
  obtain ⟨S1,E1,h2,hM1,ht1,hmu⟩:=lM hM ht h1
  obtain ⟨S2,p2,h3,hM2,ht2,hrow,hout⟩:=pT hM1 (fun d hd=>hmu d (.inr hd)) hal h2
  refine wpIn_region_any hmix ?_
  obtain ⟨hnd,h3⟩:=ab h3
  obtain ⟨hns,hnd⟩:=wn hnd
  have hcl:Closed ops (Array.replicate ops.size false):=fun j hj=>by
    simp only [Array.getD_eq_getD_getElem?,Array.getElem?_replicate] at hj
    split at hj <;> simp at hj
  refine ku hnd _ _ _ _ ?_
  have h4:lY C pl ops (aM ops.toList []) ops.size (Array.replicate ops.size false) S2 (fun S'=>e_ (a7 ops.toList) S' (eG pl id S' fun S''=>K .nrm S''))∨r_ C pl ops (fun S'=>e_ (a7 ops.toList) S' (eG pl id S' fun S''=>K .nrm S'')) ops.size (Array.replicate ops.size false) S2:=by
    split at h3
    · exact .inr (kr hD _ _ _ hcl h3)
    · exact .inl h3
  have hap1:qM ops:=by
    intro i i' o o' e e' d h1 h2 h3 h4 h5 h6
    rcases Nat.lt_trichotomy i i' with hlt | heq | hlt
    · exact (kw h3 h4 h5 h6 _ hal i i' hlt (by rw [Array.getElem?_toList]; exact h1) (by rw [Array.getElem?_toList]; exact h2)).elim
    · exact heq
    · exact (kw h4 h3 h6 h5 _ hal i' i hlt (by rw [Array.getElem?_toList]; exact h2) (by rw [Array.getElem?_toList]; exact h1)).elim
  have hg1:∀ (i:Nat) (o:Oper) (e:TypeId),ops[i]?=some o→o.op=.alloc e→o.guard=none:=fun i o e h1 h2=>sh h2 hgd (List.mem_of_getElem? (by rw [Array.getElem?_toList]; exact h1))
  have hQ1:∀ p S' E' a' w',(∀ d,p d≠none→d∈(a7 ops.toList).map (·.1))→e_ (a7 ops.toList) S' (eG pl id S' fun S''=>K .nrm S'')→ad G p E' S' w'→TR G E' S'.t a'→Q0 Q .normal a' w':=by
    intro p S' E' a' w' hp hk hS htr
    refine ⟨rfl,?_⟩
    have hps:=pU hk
    have hpn:p=pn:=by
      funext d
      cases hd:p d with
      | none=>rfl
      | some row =>
        exfalso
        obtain ⟨i,j,hij⟩:=hps d (hp d (by rw [hd]; exact fun h=>by cases h))
        have hlt:d<a'.tmps.size:=by rw [← htr.len]; exact (List.getElem?_eq_some_iff.1 hij).1
        have hv:=htr.val d _ _ hij (Array.getElem?_eq_getElem hlt)
        have hne:∃ y,E'.mu (.L d)=some y:=by
          generalize a'.tmps[d]=u at hv
          cases hv with
          | ptr _ _ hs0 hm=>exact ⟨_,hm⟩
        obtain ⟨y,hy⟩:=hne
        have:=(hS.pk d row hd).1
        rw [hy] at this
        cases this
    subst hpn
    obtain ⟨S2,E2,h2,hS2,ht2⟩:=fN hS htr (gh hk).1
    exact hQ .nrm _ E2 _ _ h2 hS2 ht2
  have hA1:∀ d,p2 d≠none→d∈(a7 ops.toList).map (·.1):=by
    intro d hd
    cases Classical.em (d∈(a7 ops.toList).map (·.1)) with
    | inl h=>exact h
    | inr h=>exact (hd ((hout d h).trans rfl)).elim
  have hI1:Inv C.P p2 ops (Array.replicate ops.size false):=by
    intro i o e d h1 h2 h3 _
    exact hrow d e (nM h2 h3 (List.mem_of_getElem? (by rw [Array.getElem?_toList]; exact h1)))
  rcases h4 with h4 | h4
  · exact nL hD hC hns hap1 hg1 hQ1 ops.size _ p2 S2 E1 a _ hA1 hM2.drawn (by rw [ht2]; exact ht1) hI1 hcl h4
  · exact gJ hC hap1 hg1 hQ1 ops.size _ p2 S2 E1 a _ hA1 hM2.drawn (by rw [ht2]; exact ht1) hI1 h4
theorem tJ {cfg:iU} (hX:yK cfg) (hN:fP cfg.P) (hmix:cfg.P.follows .mixedOrders=true) (n:Nat):bH (cg cfg n)∧f5 (cg cfg n)∧fh (cg cfg n) :=
  w_ hX.pure hX.sound hN (nB hX) (fun n h=>uh (by rw [fm]; exact hmix) (fw hX n) h) n
open Go.RowKit Go.WideShapes Go.ChangeShapes
section
variable {H:Type} {enc:TypeId×Value→H} {P:Program}
theorem oL {f:Func} {s:ChangeSpec} {apart fresh handsOn again:Bool} {W W':World} {args:Array Value} {v:Value} {ds gs:List (DataW H)} {before pa pv:List MemPlace}
    (hW:DataW.Whole enc P f.params.toList s.vars apart W args.toList ds gs before)
    (hres:∀ (b:Nat) (sp:Nat→Bool) (hd:Bool),DataW.TrodAll enc P W' b sp hd f.resultTypes.toList (v.resultList f.resultTypes.size) (s.fn H (ds++gs)).results [])
    (hargs:∀ sp:Nat→Bool,(∀ p∈before,sp p.block=true)→DataW.TrodAll enc P W' 0 sp true f.params.toList args.toList (s.fn H (ds++gs)).args pa)
    (hvars:∀ sp:Nat→Bool,(∀ p∈before,sp p.block=true)→DataW.TrodVars enc P W' sp s.vars (s.fn H (ds++gs)).vars pv)
    (hps:before=pa++pv) (hb:Below W.heap.size W W')
    (hok:∀ (j:Nat) (t:TypeId) (r:Value),f.resultTypes[j]?=some t→(v.resultList f.resultTypes.size)[j]?=some r→Value.okWide P W' .any 0 t r) :
    s.post enc P f apart fresh handsOn again W args v W':=by
  have hlt:∀ p∈before,p.block<W.heap.size:=fun p hp=>hW.lt p hp
  have hold:∀ p∈before,(fun b=>decide (b<W.heap.size)) p.block=true:=fun p hp=>by simpa using hlt p hp
  refine ⟨ds,gs,before,[],pa,pv,hW,hres _ _ _,hargs _ hold,hvars _ hold,World.keptBut_mono (fun p hp=>⟨hp,?_⟩) (hb.frame (·∈before)),fun _=>?_⟩
  · rw [hps,List.mem_append] at hp
    exact Or.inr hp
  · obtain ⟨_,_,_,_,_,hz,hn⟩:=hW
    refine ⟨hok,_,_,([]++pa)++pv,⟨[]++pa,pv,trodAll_append (hargs _ (fun _ _=>rfl)) (hres _ _ _),hvars _ (fun _ _=>rfl),rfl,?_,?_⟩,?_⟩
    · intro b off hp
      have hin:MemPlace.cell b off∈before:=by rw [hps]; simpa using hp
      rw [hb.frozen (hlt _ hin)]
      exact hz b off hin
    · intro ha
      have:=hn ha
      rw [hps] at this
      simpa using this
    · intro p hp _
      rw [hps]
      simpa using hp
end
def xL (cfg:iU) (n f:Nat) (args:List AV) (r:AV):Prop:=jY (cg cfg n) f args fun x=>x=r
theorem si {P : Program} (h : (P.funcs.all fun fn => !(fn.name == "runtime.NumGoroutine")) = true) : fP P := by
  intro f fn hf
  have hlt:f<P.funcs.size:=(Array.getElem?_eq_some_iff.1 hf).1
  have:=Array.all_eq_true.1 h f hlt
  rw [Array.getElem?_eq_getElem hlt] at hf
  cases hf
  simpa using this
def dW (P:Program) (_pl:aD) (c:Code) (S:St) (K:Ex→St→Prop):Prop :=
  ∃ n e S',(∀ (r:Option Nat) (G:Gh) (E:Env) (a:Act) (w:World) (Q:Exit→Act→World→Prop),ad G pn E S w→TR G E S.t a→vD G (fun e' S''=>e'=e∧S''=S') Q→Code.roundsIn (rd r) 0 P c Q n a w)∧K e S'
def SD (P:Program) (f:Nat) (args:List AV) (o:List Ob) (K:AV→List Ob→Prop):Prop :=
  ∃ r o',i4 P f args o (fun r' o''=>r'=r∧o''=o')∧K r o'
def ef (cfg:iU):Ctx:={ P:=cfg.P,pure:=cfg.pure,pol:=cfg.pol,pcall:=bW cfg.P,scall:=SD cfg.P,loop:=dW cfg.P }
theorem i4.mono {P:Program} {f:Nat} {args:List AV} {o:List Ob} {K K':AV→List Ob→Prop} (h:i4 P f args o K) (hk:∀ r o',K r o'→K' r o'):i4 P f args o K' :=
  ⟨h.1,fun E w us hM hg hv=>(h.2 E w us hM hg hv).mono fun _ _ ⟨v,r,o',E',h1,h2,h3,h4⟩=>⟨v,r,o',E',hk _ _ h1,h2,h3,h4⟩⟩
theorem SD.out {P:Program} {f:Nat} {args:List AV} {o:List Ob} {K:AV→List Ob→Prop} (h:SD P f args o K):i4 P f args o K:=by
  obtain ⟨r,o',h1,h2⟩:=h
  exact h1.mono fun _ _ ⟨e1,e2⟩=>by rw [e1,e2]; exact h2
theorem eT (cfg:iU):bH (ef cfg):=⟨fun _ _ _ h=>h,fun _ _ _ _ h=>h.out,fun _ _ _ _ h=>h.elim⟩
theorem iA (cfg:iU):cE (ef cfg) :=
  ⟨fun _ _ _ ⟨r,h1,h2⟩=>⟨r,h2,fun _ h=>⟨r,h1,h⟩⟩,fun _ _ _ _ ⟨r,o',h1,h2⟩=>⟨r,o',h2,fun _ h=>⟨r,o',h1,h⟩⟩,fun _ _ _ _ ⟨n,e,S',h1,h2⟩=>⟨e,S',h2,fun _ h=>⟨n,e,S',h1,h⟩⟩,fun _ _ _=>ah.failN (n:=0)⟩
theorem eU (cfg:iU):f5 (ef cfg):=by
  rintro pl c S K ⟨n,e,S',h1,h2⟩ r _ G E a w Q hM ht hQ
  exact wpIn_loop_rounds n (h1 r G E a w Q hM ht fun e' S'' E' a' w' ⟨e1,e2⟩ hS htr=>by subst e1 e2; exact hQ _ _ _ _ _ h2 hS htr)
theorem gj {cfg:iU} (hmix:cfg.P.follows .mixedOrders=true):fh (ef cfg):=uh hmix (iA cfg) (eT cfg)
theorem dW.step {cfg:iU} (hmix:cfg.P.follows .mixedOrders=true) {pl:aD} {c:Code} {S:St} {K:Ex→St→Prop}
    (h:cF (ef cfg) pl c S fun e S'=>match e with
      | .nrm=>dW cfg.P pl c S' K
      | .ex i=>K (.ex i) S'
      | .ret=>K .ret S'):dW cfg.P pl c S K:=by
  obtain ⟨e1,S1,h1,h2⟩:=gi (iA cfg) c _ h
  have run:∀ (e:Ex) (S2:St) (n:Nat),(∀ (r:Option Nat) (G:Gh) (E:Env) (a:Act) (w:World) (Q:Exit→Act→World→Prop),ad G pn E S1 w→TR G E S1.t a→vD G (fun e' S''=>e'=e∧S''=S2) Q→Exit.then (Code.roundsIn (rd r) 0 cfg.P c Q n) Q (w7 e1) a w) →
      ∀ (r:Option Nat) (G:Gh) (E:Env) (a:Act) (w:World) (Q:Exit→Act→World→Prop),ad G pn E S w→TR G E S.t a→vD G (fun e' S''=>e'=e∧S''=S2) Q→Code.roundsIn (rd r) 0 cfg.P c Q (n + 1) a w:=by
    intro e S2 n hn r G E a w Q hM ht hQ
    refine ez (eT cfg) (eU cfg) (gj hmix) c (h2 (fun e' S'=>e'=e1∧S'=S1) ⟨rfl,rfl⟩) r (fun h=>by cases h) G E a w _ hM ht (fun e' S' E' a' w' hk hS htr=>?_)
    obtain ⟨rfl,rfl⟩:=hk
    exact hn r G E' a' w' Q hS htr hQ
  cases e1 with
  | nrm =>
    obtain ⟨n,e,S',hl,hk⟩:=h1
    exact ⟨n + 1,e,S',run e S' n (fun r G E a w Q hM ht hQ=>hl r G E a w Q hM ht hQ),hk⟩
  | ex i=>exact ⟨1,.ex i,S1,run _ _ 0 (fun r G E a w Q hM ht hQ=>hQ _ _ _ _ _ ⟨rfl,rfl⟩ hM ht),h1⟩
  | ret=>exact ⟨1,.ret,S1,run _ _ 0 (fun r G E a w Q hM ht hQ=>hQ _ _ _ _ _ ⟨rfl,rfl⟩ hM ht),h1⟩
theorem bW.mono {P:Program} {f:Nat} {args:List AV} {K K':AV→Prop} (h:bW P f args K) (hk:∀ r,K r→K' r):bW P f args K' :=
  let ⟨r,h1,h2⟩:=h
  ⟨r,h1,hk _ h2⟩
theorem dW.mono {P:Program} {pl:aD} {c:Code} {S:St} {K K':Ex→St→Prop} (h:dW P pl c S K) (hk:∀ e S',K e S'→K' e S'):dW P pl c S K' :=
  let ⟨n,e,S',h1,h2⟩:=h
  ⟨n,e,S',h1,hk _ _ h2⟩
theorem SD.mono {P:Program} {f:Nat} {args:List AV} {o:List Ob} {K K':AV→List Ob→Prop} (h:SD P f args o K) (hk:∀ r o',K r o'→K' r o'):SD P f args o K' :=
  let ⟨r,o',h1,h2⟩:=h
  ⟨r,o',h1,hk _ _ h2⟩
theorem bW.of {cfg:iU} (hN:fP cfg.P) (hmix:cfg.P.follows .mixedOrders=true) {f:Nat} {args:List AV} {K:AV→Prop} (h:jY (ef cfg) f args K):bW cfg.P f args K :=
  im (eT cfg) (eU cfg) (gj hmix) hN (fun f args K h=>by
    obtain ⟨r,h1,h2⟩:=lb (iA cfg) K h
    exact ⟨r,h1,h2 _ rfl⟩) h
theorem SD.of {cfg:iU} (hN:fP cfg.P) (hmix:cfg.P.follows .mixedOrders=true) {f:Nat} {args:List AV} {o:List Ob} {K:AV→List Ob→Prop} (h:kO (ef cfg) f args o K):SD cfg.P f args o K:=by
  obtain ⟨r,o',h1,h2⟩:=nz (iA cfg) K h
  exact ⟨r,o',kj (eT cfg) (eU cfg) (gj hmix) hN (h2 _ ⟨rfl,rfl⟩),h1⟩
theorem bW.ofN {cfg:iU} (hX:yK cfg) (hN:fP cfg.P) (hmix:cfg.P.follows .mixedOrders=true) {n f:Nat} {args:List AV} {r:AV} (h:xL cfg n f args r):bW cfg.P f args fun x=>x=r:=by
  obtain ⟨h1,h2,h3⟩:=tJ hX hN hmix n
  have hP:=fm cfg n
  have:=im h1 h2 h3 (by rw [hP]; exact hN) (nB hX n) h
  rw [hP] at this
  exact this
theorem tK {P:Program} {f:Nat} {args:List AV} (h:bW P f args fun x=>x=.v (.bool true)) (F:Nat→Prop) (w:World) (us:Array Value) (hF:∀ b,F b→b<w.heap.size) (hg:qh ⟨F,fun _=>none,w.heap⟩) (hv:aO ⟨F,fun _=>none,w.heap⟩ args us.toList) :
    Calls P f us w fun e w'=>e=.returned (.bool true)∧Go.RowKit.Below w.heap.size w w':=by
  obtain ⟨r,⟨_,h4⟩,rfl⟩:=h
  refine (h4 F w us hF hg hv).mono ?_
  rintro e w' ⟨v,F',rfl,hv,hb,_⟩
  exact ⟨by rw [hv.vI.1],hb⟩
open Go.ChangeShapes Go.WideShapes
def qN (P:Program):List Field→Nat→Bool
  | [],_=>true
  | f::fs,k=>Nat.beq f.offset k&&qN P fs (k + P.cellsOf f.type)
def lN (P:Program):Nat→TypeId→Bool
  | 0,_=>false
  | n + 1,t =>
    match P.underlying t with
    | some .bool | some (.int _) | some .string=>true
    | some (.slice e)=>Nat.blt 0 (P.cellsOf e)&&lN P n e
    | some (.struct fs)=>qN P fs.toList 0&&Nat.beq (fs.toList.foldl (fun s f=>s + P.cellsOf f.type) 0) (P.cellsOf t)&&fs.toList.all fun f=>lN P n f.type
    | _=>false
def bO {H:Type} (P:Program):Nat→TypeId→DataW H→Bool
  | 0,_,_=>false
  | n + 1,t,d =>
    match P.underlying t,d with
    | some .bool,.lit (.bool _)=>true
    | some (.int k),.lit (.int k' m)=>decide (k'=k)&&(Lit.int k m).wf
    | some .string,.lit (.string bs)=>decide (bs.length≤maxLen)
    | some (.slice _),.nil=>true
    | some (.slice e),.slice xs _=>decide (xs.length≤maxLen)&&xs.all (bO P n e)
    | some (.struct fs),.agg ds=>Nat.beq ds.length fs.size&&(fs.toList.zip ds).all fun x=>bO P n x.1.type x.2
    | _,_=>false
def dx {H:Type} (P:Program):Nat→TypeId→DataW H→List AV
  | 0,_,_=>[]
  | n + 1,t,d =>
    match P.underlying t,d with
    | some .bool,.lit (.bool b)=>[.v (.bool b)]
    | some (.int k),.lit (.int _ m)=>[.v (.int k m)]
    | some .string,.lit (.string bs)=>[.v (.string ⟨bs.toArray⟩)]
    | some (.slice _),.nil=>[.nilsl]
    | some (.slice e),.slice xs _=>[.sl (xs.map (dx P n e))]
    | some (.struct fs),.agg ds=>(fs.toList.zip ds).flatMap fun x=>dx P n x.1.type x.2
    | _,_=>[]
def mb (w:World):Env:=⟨fun b=>b<w.heap.size,fun _=>none,w.heap⟩
theorem nN {α β:Type} {f:α→Option β}:∀ {xs:List α} {ys:List β},xs.mapM f=some ys→xs.length=ys.length∧∀ (i:Nat) (x:α),xs[i]?=some x→∃ y,ys[i]?=some y∧f x=some y
  | [],ys,h=>by
    simp at h
    subst h
    exact ⟨rfl,fun i x h=>by simp at h⟩
  | x::xs,ys,h=>by
    rw [List.mapM_cons] at h
    simp only [Option.pure_def,Option.bind_eq_bind,Option.bind_eq_some_iff,Option.some.injEq] at h
    obtain ⟨y,hy,ys',hys,rfl⟩:=h
    obtain ⟨h1,h2⟩:=nN hys
    refine ⟨by simp [h1],fun i z hz=>?_⟩
    cases i with
    | zero =>
      simp only [List.getElem?_cons_zero,Option.some.injEq] at hz
      subst hz
      exact ⟨y,rfl,hy⟩
    | succ i=>exact h2 i z (by simpa using hz)
theorem jJ {w:World} {a:Addr} {v:Value} (h:w.cell? a=some v):a.spot=none∧a.block<w.heap.size∧bq w.heap a.block a.off=some v:=by
  unfold World.cell? at h
  split at h
  · rename_i c t fr hb
    split at h
    · cases h
    · rename_i hs
      refine ⟨by simpa using hs,(Array.getElem?_eq_some_iff.1 hb).1,?_⟩
      unfold bq
      rw [hb]
      exact h
  · cases h
theorem nO (P:Program):∀ (fs:List Field) (k:Nat),fs.foldl (fun s f=>s + P.cellsOf f.type) k=k + fs.foldl (fun s f=>s + P.cellsOf f.type) 0
  | [],k=>by simp
  | f::fs,k=>by
    rw [List.foldl_cons,List.foldl_cons,nO P fs (k + _),nO P fs (0 + _)]
    omega
theorem nP {α:Type} {sz:Nat}:∀ {rows:List (List α)} {m:Nat} {c:α},0<sz→(∀ r∈rows,r.length=sz)→rows.flatten[m]?=some c→∃ r,rows[m / sz]?=some r∧r[m % sz]?=some c
  | [],m,c,_,_,h=>by simp at h
  | r::rs,m,c,hs,hr,h=>by
    have h0:=hr r List.mem_cons_self
    rw [List.flatten_cons] at h
    by_cases hm:m<sz
    · rw [List.getElem?_append_left (by omega)] at h
      refine ⟨r,?_,?_⟩
      · rw [Nat.div_eq_of_lt hm]; rfl
      · rw [Nat.mod_eq_of_lt hm]; exact h
    · rw [List.getElem?_append_right (by omega),h0] at h
      obtain ⟨r',h1,h2⟩:=nP (rows:=rs) hs (fun r h=>hr r (List.mem_cons_of_mem _ h)) h
      have e1:m / sz=(m - sz) / sz + 1:=by
        rw [← Nat.add_div_right _ hs]
        congr 1
        omega
      have e2:m % sz=(m - sz) % sz:=by
        rw [Nat.mod_eq_sub_mod (by omega)]
      rw [e1,e2,List.getElem?_cons_succ]
      exact ⟨r',h1,h2⟩
section
variable {H:Type} {enc:TypeId×Value→H} {P:Program} {w:World} {sp:Nat→Bool}
theorem xk:(mb w).fz=mb w:=rfl
theorem pV {n:Nat} {base:Nat} {fuel:Nat} (ih:∀ {fuel:Nat} {t:TypeId} {cs:List Value} {d:DataW H} {ps:List MemPlace},lN P n t=true→cs.length=P.cellsOf t→DataW.trod enc P w base sp true fuel t cs=some (d,ps)→bO P n t d=true∧aO (mb w) (dx P n t d) cs) :
    ∀ (fs:List Field) (k:Nat) (cs:List Value) (xs:List (DataW H×List MemPlace)),qN P fs k=true→k + fs.foldl (fun s f=>s + P.cellsOf f.type) 0=cs.length→(fs.all fun f=>lN P n f.type)=true →
      fs.mapM (fun f=>DataW.trod enc P w base sp true fuel f.type ((cs.drop f.offset).take (P.cellsOf f.type)))=some xs →
      ((fs.zip (xs.map (·.1))).all fun x=>bO P n x.1.type x.2)=true∧aO (mb w) ((fs.zip (xs.map (·.1))).flatMap fun x=>dx P n x.1.type x.2) (cs.drop k)
  | [],k,cs,xs,_,hl,_,h=>by
    simp at h
    subst h
    simp at hl
    refine ⟨rfl,?_⟩
    rw [List.drop_eq_nil_of_le (by omega)]
    exact .nil _
  | f::fs,k,cs,xs,hc,hl,hg,h=>by
    rw [List.mapM_cons] at h
    simp only [Option.pure_def,Option.bind_eq_bind,Option.bind_eq_some_iff,Option.some.injEq] at h
    obtain ⟨y,hy,ys,hys,rfl⟩:=h
    unfold qN at hc
    simp only [Bool.and_eq_true] at hc
    have hoff:=Nat.eq_of_beq_eq_true hc.1
    simp only [List.all_cons,Bool.and_eq_true] at hg
    rw [List.foldl_cons,nO] at hl
    rw [hoff] at hy
    have hlen:((cs.drop k).take (P.cellsOf f.type)).length=P.cellsOf f.type:=by simp; omega
    obtain ⟨h1,h2⟩:=ih (ps:=y.2) hg.1 hlen hy
    obtain ⟨h3,h4⟩:=pV ih fs (k + P.cellsOf f.type) cs ys hc.2 (by omega) hg.2 hys
    refine ⟨by simp [h1,h3],?_⟩
    show aO _ (dx P n f.type y.1++_) _
    have:=h2.append h4
    rw [← List.drop_drop,List.take_append_drop] at this
    exact this
theorem mo {base:Nat}:∀ (n:Nat) {fuel:Nat} {t:TypeId} {cs:List Value} {d:DataW H} {ps:List MemPlace},lN P n t=true→cs.length=P.cellsOf t→DataW.trod enc P w base sp true fuel t cs=some (d,ps)→bO P n t d=true∧aO (mb w) (dx P n t d) cs
  | 0,_,_,_,_,_,h,_,_=>by cases h
  | n + 1,0,_,_,_,_,_,_,h=>by simp [DataW.trod] at h
  | n + 1,fuel + 1,t,cs,d,ps,hg,hlen,h=>by
    have one:∀ {c:AV} {u:Value},VR (mb w) c u→aO (mb w) [c] [u]:=fun h=>.cons h (.nil _)
    unfold lN at hg
    unfold DataW.trod at h
    split at hg
    · rename_i hu
      rw [hu] at h
      split at h <;> first | (simp_all; done) | skip
      rename_i b _ _
      simp only [Option.some.injEq,Prod.mk.injEq] at h
      obtain ⟨rfl,_⟩:=h
      refine ⟨by unfold bO; rw [hu],?_⟩
      unfold dx
      rw [hu]
      exact one (.v _ _ rfl)
    · rename_i k hu
      rw [hu] at h
      split at h <;> first | (simp_all; done) | skip
      rename_i k' kk m e2
      cases e2
      split at h
      · rename_i hk
        simp only [Option.some.injEq,Prod.mk.injEq] at h
        obtain ⟨rfl,_⟩:=h
        obtain ⟨hkk,hwf⟩:=hk
        subst hkk
        refine ⟨by unfold bO; rw [hu]; simp [hwf],?_⟩
        unfold dx
        rw [hu]
        exact one (.v _ _ rfl)
      · cases h
    · rename_i hu
      rw [hu] at h
      split at h <;> first | (simp_all; done) | skip
      rename_i s e2
      split at h
      · rename_i hs
        simp only [Option.some.injEq,Prod.mk.injEq] at h
        obtain ⟨rfl,_⟩:=h
        refine ⟨by unfold bO; rw [hu]; simpa using hs,?_⟩
        unfold dx
        rw [hu]
        have:(⟨s.data.toList.toArray⟩:ByteArray)=s:=by cases s; simp
        dsimp only
        rw [this]
        exact one (.v _ _ rfl)
      · cases h
    · rename_i e hu
      simp only [Bool.and_eq_true] at hg
      have hsz:0<P.cellsOf e:=Nat.le_of_ble_eq_true hg.1
      rw [hu] at h
      split at h <;> first | (simp_all; done) | skip
      · simp only [Option.some.injEq,Prod.mk.injEq] at h
        obtain ⟨rfl,_⟩:=h
        refine ⟨by unfold bO; rw [hu],?_⟩
        unfold dx
        rw [hu]
        exact one (.nilsl _)
      · rename_i e0 a len cap e2
        cases e2
        dsimp only at h
        split at h
        · rename_i hb
          simp only [Option.bind_eq_some_iff,Option.map_eq_some_iff,Prod.mk.injEq] at h
          obtain ⟨elems,he,rest,_,rfl,_⟩:=h
          obtain ⟨hl1,hget⟩:=nN he
          simp only [List.length_range] at hl1
          have hel:∀ (i:Nat) (y:DataW H×List MemPlace),elems[i]?=some y→∃ cs',(w.cells? base (a.add (i * P.cellsOf e)) (P.cellsOf e))=some cs'∧bO P n e y.1=true∧aO (mb w) (dx P n e y.1) cs':=by
            intro i y hy
            have hi:i<len:=by rw [hl1]; exact (List.getElem?_eq_some_iff.1 hy).1
            obtain ⟨y',hy',hf⟩:=hget i i (by simp [hi])
            rw [hy] at hy'
            cases hy'
            simp only [Option.bind_eq_some_iff] at hf
            obtain ⟨cs',hc,ht⟩:=hf
            have hcl:=(World.cells?_some hc).2.1
            obtain ⟨h1,h2⟩:=mo n (ps:=y.2) hg.2 hcl ht
            exact ⟨cs',hc,h1,h2⟩
          refine ⟨?_,?_⟩
          · unfold bO
            rw [hu]
            simp only [Bool.and_eq_true,decide_eq_true_eq,List.length_map,List.all_eq_true,List.mem_map]
            refine ⟨by omega,?_⟩
            rintro x ⟨y,hy,rfl⟩
            obtain ⟨i,hi,hiy⟩:=List.getElem_of_mem hy
            obtain ⟨cs',_,h1,_⟩:=hel i y (by rw [List.getElem?_eq_getElem hi,hiy])
            exact h1
          · unfold dx
            rw [hu]
            refine one ?_
            cases hlen0:len with
            | zero =>
              have:elems=[]:=List.eq_nil_of_length_eq_zero (by omega)
              rw [this]
              exact .sle _ a cap
            | succ len' =>
              have hrow:∀ (i:Nat) (y:DataW H×List MemPlace),elems[i]?=some y→∃ cs',cs'.length=P.cellsOf e∧aO (mb w) (dx P n e y.1) cs'∧∀ j,j<P.cellsOf e→w.cell? ((a.add (i * P.cellsOf e)).add j)=cs'[j]?:=by
                intro i y hy
                obtain ⟨cs',hc,_,h2⟩:=hel i y hy
                obtain ⟨_,h3,h4⟩:=World.cells?_some hc
                exact ⟨cs',h3,h2,h4⟩
              obtain ⟨y0,hy0⟩:∃ y0,elems[0]?=some y0:=⟨elems[0]'(by omega),List.getElem?_eq_getElem (by omega)⟩
              obtain ⟨c0,hc0,_,hat0⟩:=hrow 0 y0 hy0
              have h00:=hat0 0 hsz
              simp only [Nat.zero_mul,Addr.add,if_pos] at h00
              have hv0:c0[0]?=some (c0[0]'(by omega)):=List.getElem?_eq_getElem (by omega)
              rw [hv0] at h00
              obtain ⟨hspot,hblk,_⟩:=jJ h00
              obtain ⟨b,off,spot⟩:=a
              simp only at hspot hblk
              subst hspot
              have hadd:∀ x,(⟨b,off,none⟩:Addr).add x=⟨b,off + x,none⟩:=fun x=>by unfold Addr.add; split <;> simp_all
              have hrl:∀ r∈(elems.map (·.1)).map (dx P n e),r.length=P.cellsOf e:=by
                intro r hr
                simp only [List.map_map,List.mem_map] at hr
                obtain ⟨y,hy,rfl⟩:=hr
                obtain ⟨i,hi,hiy⟩:=List.getElem_of_mem hy
                obtain ⟨cs',h1,h2,_⟩:=hrow i y (by rw [List.getElem?_eq_getElem hi,hiy])
                exact h2.1.trans h1
              have hfl:((elems.map (·.1)).map (dx P n e)).flatten.length=len * P.cellsOf e:=by
                have:∀ (rows:List (List AV)),(∀ r∈rows,r.length=P.cellsOf e)→rows.flatten.length=rows.length * P.cellsOf e:=by
                  intro rows
                  induction rows with
                  | nil=>intro _; simp
                  | cons r rs ih=>intro hr; rw [List.flatten_cons,List.length_append,ih (fun r h=>hr r (List.mem_cons_of_mem _ h)),hr r List.mem_cons_self,List.length_cons,Nat.succ_mul]; omega
                rw [this _ hrl]
                simp [hl1]
              have hcell:∀ m,m<len * P.cellsOf e→∃ u,bq w.heap b (off + m)=some u:=by
                intro m hm
                have hi:m / P.cellsOf e<len:=(Nat.div_lt_iff_lt_mul hsz).2 hm
                have hj:m % P.cellsOf e<P.cellsOf e:=Nat.mod_lt _ hsz
                obtain ⟨y,hy⟩:∃ y,elems[m / P.cellsOf e]?=some y:=⟨elems[m / P.cellsOf e]'(by omega),List.getElem?_eq_getElem (by omega)⟩
                obtain ⟨cs',h1,h2,h3⟩:=hrow _ y hy
                have h4:=h3 _ hj
                have hv:cs'[m % P.cellsOf e]?=some (cs'[m % P.cellsOf e]'(by omega)):=List.getElem?_eq_getElem (by omega)
                rw [hv,hadd] at h4
                have hadd2:∀ x y,(⟨b,x,none⟩:Addr).add y=⟨b,x + y,none⟩:=fun x y=>by unfold Addr.add; split <;> simp_all
                rw [hadd2] at h4
                obtain ⟨_,_,h5⟩:=jJ h4
                have ee:off + m / P.cellsOf e * P.cellsOf e + m % P.cellsOf e=off + m:=by
                  have:=Nat.div_add_mod m (P.cellsOf e)
                  rw [Nat.mul_comm] at this
                  omega
                simp only [ee] at h5
                exact ⟨_,h5⟩
              have hus:=VR.sl (E:=mb w) (rows:=(elems.map (·.1)).map (dx P n e)) (sz:=P.cellsOf e) (b:=b) (o:=off) (cap:=cap)
                ((List.range (len * P.cellsOf e)).map fun m=>(bq w.heap b (off + m)).getD undef) hsz hrl (by rw [hfl]; simp) (fun m c u h1 h2=>?_) hblk (fun m u hu'=>?_) (by simp; omega)
              · have e1:((elems.map (·.1)).map (dx P n e)).length=len' + 1:=by simp; omega
                rw [e1] at hus
                exact hus
              · rw [xk]
                obtain ⟨r,h3,h4⟩:=nP hsz hrl h1
                rw [List.getElem?_map,List.getElem?_map,Option.map_eq_some_iff] at h3
                obtain ⟨x,h3,rfl⟩:=h3
                rw [Option.map_eq_some_iff] at h3
                obtain ⟨y,hy,rfl⟩:=h3
                obtain ⟨cs',h5,h6,h7⟩:=hrow _ y hy
                obtain ⟨u',hu1,hu2⟩:=h6.get h4
                have hj:m % P.cellsOf e<P.cellsOf e:=Nat.mod_lt _ hsz
                have h8:=h7 _ hj
                have hadd2:∀ x y,(⟨b,x,none⟩:Addr).add y=⟨b,x + y,none⟩:=fun x y=>by unfold Addr.add; split <;> simp_all
                rw [hu1,hadd,hadd2] at h8
                obtain ⟨_,_,h9⟩:=jJ h8
                have ee:off + m / P.cellsOf e * P.cellsOf e + m % P.cellsOf e=off + m:=by
                  have:=Nat.div_add_mod m (P.cellsOf e)
                  rw [Nat.mul_comm] at this
                  omega
                simp only [ee] at h9
                have hm:m<len * P.cellsOf e:=by rw [← hfl]; exact (List.getElem?_eq_some_iff.1 h1).1
                rw [List.getElem?_map,List.getElem?_range hm] at h2
                simp only [Option.map_some,h9,Option.getD_some,Option.some.injEq] at h2
                subst h2
                exact hu2
              · have hm:m<len * P.cellsOf e:=by
                  have:=(List.getElem?_eq_some_iff.1 hu').1
                  simpa using this
                rw [List.getElem?_map,List.getElem?_range hm] at hu'
                obtain ⟨u',h5⟩:=hcell m hm
                simp only [Option.map_some,h5,Option.getD_some,Option.some.injEq] at hu'
                subst hu'
                exact h5
        · cases h
    · rename_i fs hu
      simp only [Bool.and_eq_true] at hg
      rw [hu] at h
      split at h <;> first | (simp_all; done) | skip
      rename_i fs0 e1
      cases e1
      rw [if_pos hlen] at h
      simp only [Option.map_eq_some_iff,Prod.mk.injEq] at h
      obtain ⟨xs,hx,rfl,_⟩:=h
      have hsum:=Nat.eq_of_beq_eq_true hg.1.2
      obtain ⟨h1,h2⟩:=pV (n:=n) (base:=base) (fuel:=fuel) (fun hg hl ht=>mo n hg hl ht) fs.toList 0 _ xs hg.1.1 (by omega) hg.2 hx
      obtain ⟨hl1,_⟩:=nN hx
      refine ⟨?_,?_⟩
      · unfold bO
        rw [hu]
        simp only [Bool.and_eq_true]
        exact ⟨by simp at hl1; simp [hl1],h1⟩
      · unfold dx
        rw [hu]
        simpa using h2
    · cases hg
end
def lO {H:Type} (P:Program) (n:Nat) (t:TypeId) (d:DataW H):AV :=
  match P.underlying t with
  | some (.struct _)=>.agg (dx P n t d)
  | _=>(dx P n t d).headD .bad
def fB (P:Program) (t:TypeId):Bool :=
  match P.underlying t with
  | some (.struct _)=>true
  | _=>false
def ui (P:Program) (n:Nat) (t:TypeId):Bool:=lN P n t&&(fB P t||Nat.beq (P.cellsOf t) 1)
section
variable {H:Type} {enc:TypeId×Value→H} {P:Program} {W W':World}
theorem yj {n:Nat} {t:TypeId} {v:Value} {d:DataW H} {p:List MemPlace} {base:Nat} (hg:ui P n t=true) (hv:Value.okWide P W .any base t v) (h:DataW.Trod enc P W 0 (fun _=>true) true t v d p) :
    bO P n t d=true∧VR (mb W) (lO P n t d) v:=by
  unfold ui at hg
  simp only [Bool.and_eq_true,Bool.or_eq_true] at hg
  obtain ⟨fuel,hf⟩:=h
  cases hs:fB P t with
  | true =>
    unfold fB at hs
    split at hs
    · rename_i fs hu
      unfold Value.okWide at hv
      rw [hu] at hv
      obtain ⟨cs,rfl,hsz,_⟩:=hv
      have hc:(Value.agg cs).cells.toList=cs.toList:=rfl
      rw [hc] at hf
      obtain ⟨h1,h2⟩:=mo (base:=0) n (ps:=p) hg.1 (by simpa using hsz) hf
      refine ⟨h1,?_⟩
      unfold lO
      rw [hu]
      exact h2.aggV
    · cases hs
  | false =>
    have hc1:P.cellsOf t=1:=by
      rcases hg.2 with h | h
      · rw [hs] at h; cases h
      · exact Nat.eq_of_beq_eq_true h
    have hone:v.cells.toList=[v]:=by
      have hns:∀ fs,P.underlying t≠some (.struct fs):=fun fs he=>by unfold fB at hs; rw [he] at hs; cases hs
      have hgt:=hg.1
      cases v with
      | agg cs =>
        exfalso
        cases n with
        | zero=>cases hgt
        | succ n =>
          unfold lN at hgt
          unfold Value.okWide at hv
          split at hgt
          · rename_i hu; rw [hu] at hv; simp [Cell.okWide,Cell.ok,hu] at hv
          · rename_i k hu; rw [hu] at hv; simp [Cell.okWide,Cell.ok,hu] at hv
          · rename_i hu; rw [hu] at hv; simp [Cell.okWide,Cell.ok,hu] at hv
          · rename_i e hu; rw [hu] at hv; simp [Cell.okWide,Cell.ok,hu] at hv
          · rename_i fs hu; exact hns fs hu
          · cases hgt
      | _=>rfl
    rw [hone] at hf
    obtain ⟨h1,h2⟩:=mo (base:=0) n (ps:=p) hg.1 (by rw [hc1]; rfl) hf
    refine ⟨h1,?_⟩
    have hav:lO P n t d=(dx P n t d).headD .bad:=by
      unfold lO
      unfold fB at hs
      split at hs
      · cases hs
      · rfl
    rw [hav]
    cases he:dx P n t d with
    | nil=>exact .bad _ _
    | cons c cs =>
      rw [he] at h2
      exact h2.2 0 c v rfl rfl
theorem uj {n base:Nat}:∀ {ts:List TypeId} {vs:List Value} {ds:List (DataW H)} {p:List MemPlace},(ts.all (ui P n))=true→(∀ (j:Nat) (t:TypeId) (v:Value),ts[j]?=some t→vs[j]?=some v→Value.okWide P W .any base t v) →
    DataW.TrodAll enc P W 0 (fun _=>true) true ts vs ds p→ds.length=ts.length∧((ts.zip ds).all fun x=>bO P n x.1 x.2)=true∧aO (mb W) ((ts.zip ds).map fun x=>lO P n x.1 x.2) vs
  | [],[],[],_,_,_,_=>⟨rfl,rfl,.nil _⟩
  | t::ts,v::vs,d::ds,_,hg,hv,h=>by
    obtain ⟨p,q,h1,h2,_⟩:=h
    simp only [List.all_cons,Bool.and_eq_true] at hg
    obtain ⟨h3,h4⟩:=yj hg.1 (hv 0 t v rfl rfl) h1
    obtain ⟨h5,h6,h7⟩:=uj hg.2 (fun j t v e1 e2=>hv (j + 1) t v (by simpa using e1) (by simpa using e2)) h2
    exact ⟨by simp [h5],by simp [h3,h6],.cons h4 h7⟩
  | [],[],_::_,_,_,_,h=>by cases h
  | [],_::_,_,_,_,_,h=>by cases h
  | _::_,[],_,_,_,_,h=>by cases h
  | _::_,_::_,[],_,_,_,h=>by cases h
theorem pW {sp:Nat→Bool} (hl:laidOutB P=true):∀ {ts:List TypeId} {vs:List Value} {ds:List (DataW H)} {p:List MemPlace},(ts.all fun t=>P.readableRec t&&decide (t<P.types.size))=true →
    DataW.TrodAll enc P W 0 (fun _=>true) true ts vs ds p→Below W.heap.size W W'→(∀ x∈p,x.block<W.heap.size)→(∀ x∈p,sp x.block=true)→DataW.TrodAll enc P W' 0 sp true ts vs ds p
  | [],[],[],_,_,h,_,_,_=>h
  | t::ts,v::vs,d::ds,_,hg,h,hb,hlt,hsp=>by
    obtain ⟨p,q,h1,h2,rfl⟩:=h
    simp only [List.all_cons,Bool.and_eq_true,decide_eq_true_eq] at hg
    refine ⟨p,q,Go.WideElems.Trod_stays hl hg.1.1 hg.1.2 h1 (fun x hx=>hb.same (hlt x (List.mem_append.2 (.inl hx)))) (fun x hx=>hsp x (List.mem_append.2 (.inl hx))),?_,rfl⟩
    exact pW hl hg.2 h2 hb (fun x hx=>hlt x (List.mem_append.2 (.inr hx))) (fun x hx=>hsp x (List.mem_append.2 (.inr hx)))
  | [],[],_::_,_,_,h,_,_,_=>by cases h
  | [],_::_,_,_,_,h,_,_,_=>by cases h
  | _::_,[],_,_,_,h,_,_,_=>by cases h
  | _::_,_::_,[],_,_,h,_,_,_=>by cases h
end
end A
end Go.Proofs.Ytaekcekecdocnaa
