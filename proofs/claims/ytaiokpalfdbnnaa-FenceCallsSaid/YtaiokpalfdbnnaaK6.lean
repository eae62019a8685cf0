/- Orders that are open; contracts; arguments read as data. Nothing is claimed here of the program. -/
import Derived.Test.YtaiokpalfdbnnaaK5
import Derived.Still
import Derived.WalkKit
import Derived.ProofKit
import Derived.OpenShut
import Derived.LoopNIn
import Derived.DataReads
import Derived.Carry
import Derived.WideKeyArgs
namespace Go.Proofs.Ytaiokpalfdbnnaa
namespace A
open Go
theorem mQ:∀ {xs:List (Nat×TypeId)} {S:St} {X:Prop},k8 xs S X→X∧∀ X',X'→k8 xs S X'
  | [],_,_,h=>⟨h,fun _ h=>h⟩
  | (d,e)::xs,S,X,h=>by
    obtain ⟨a,h1,h2⟩:=cj.1 h
    split at h2
    · rename_i d' i j
      obtain ⟨hb,h2⟩:=ac h2
      obtain ⟨h3,h4⟩:=mQ h2
      refine ⟨h3,fun X' h=>cj.2 ⟨_,h1,?_⟩⟩
      exact al hb (h4 X' h)
    · exact False.elim h2
theorem fJ {C:Ctx} (hC:gu C) {pl:bK} {ai:Array Oper} {i:Nat} {S:St}:aw (yv C pl ai i S):=by
  show aw (fun K:St→Prop=>yv C pl ai i S K)
  unfold yv
  split
  · exact aw.failN
  · exact FX hC
theorem EQ {S2 S1:St} {X:(St→Prop)→Prop} (h:aw X):aw (fun K=>ua S2 S1 (X K)):=by
  unfold ua
  split
  · exact h
  · exact fun K hk=>by
      obtain ⟨r,h1,h2⟩:=h K hk.2
      exact ⟨r,h1,fun K' hk'=>⟨hk.1,h2 K' hk'⟩⟩
theorem Be {go:Nat→(St→Prop)→Prop} (hg:∀ i,aw (go i)):∀ (is:List Nat) (S1:St),aw (fun K:St→Prop=>Ci go is S1 (K S1))
  | [],S1=>aw.ret S1
  | i::is,S1=>by
    show aw (fun K:St→Prop=>go i fun S2=>ua S2 S1 (Ci go is S1 (K S1)))
    exact aw.bind (hg i) (fun S2=>EQ (Be hg is S1))
theorem fk {C:Ctx} (hC:gu C) {pl:bK} {ai:Array Oper} {ws:List Nat}:∀ (n:Nat) (listed:Array Bool) (S:St),aw (jT C pl ai ws n listed S)
  | 0,listed,S=>by
    show aw (fun K:St→Prop=>jT C pl ai ws 0 listed S K)
    unfold jT
    split
    · exact aw.ret S
    · exact aw.failN
  | n + 1,listed,S=>by
    show aw (fun K:St→Prop=>jT C pl ai ws (n + 1) listed S K)
    unfold jT
    split
    · exact aw.ret S
    · split
      · exact aw.bind (fJ hC) (fun S'=>fk hC n _ S')
      · refine aw.bind (fJ hC) (fun S'=>aw.bind (fk hC n _ S') (fun S1=>?_))
        exact Be (fun i=>aw.bind (fJ hC) (fun S'=>fk hC n _ S')) _ S1
theorem Bf {C:Ctx} (hC:gu C) {pl:bK} {ai:Array Oper} {ws:List Nat}:∀ (n:Nat) (listed:Array Bool) (S:St),aw (uO C pl ai ws n listed S)
  | 0,listed,S=>fk (pl:=pl) (ws:=ws) hC 0 listed S
  | n + 1,listed,S=>by
    show aw (fun K:St→Prop=>uO C pl ai ws (n + 1) listed S K)
    unfold uO
    split
    · exact aw.bind (fJ hC) (fun S'=>Bf hC n _ S')
    · exact fk hC _ _ _
theorem wE {C:Ctx} (hC:gu C) {pl:bK} {ai:Array Oper} {S:St}:aw (xG C pl ai S):=by
  show aw (fun K:St→Prop=>xG C pl ai S K)
  unfold xG
  refine aw.chk ?_
  split
  · exact fk hC _ _ _
  · exact Bf hC _ _ _
theorem tl {C:Ctx} (hC:gu C) {pl:bK}:∀ (c:Code) {S:St},ar (gN C pl c S):=by
  intro c
  induction c with
  | skip=>exact ar.ret Ex.nrm _
  | region id ai draw =>
    intro S
    cases draw with
    | false =>
      show ar (fun (K:Ex→St→Prop)=>sY C pl ai ai.toList S fun S'=>kp pl id S' fun S''=>K .nrm S'')
      exact aw.bind2 (ll hC _ _) (fun S'=>aw.bind2 pL (fun S''=>ar.ret Ex.nrm S''))
    | true =>
      show ar (fun (K:Ex→St→Prop)=>bG (uc pl ai) (xH C.P (cy ai.toList) S fun S1=>xG C pl ai S1 fun S'=>k8 (cy ai.toList) S' (kp pl id S' fun S''=>K .nrm S'')))
      refine ar.chk (aw.bind2 wD (fun S1=>aw.bind2 (wE hC) (fun S'=>?_)))
      intro K h
      obtain ⟨h1,h2⟩:=mQ h
      obtain ⟨S'',h3,h4⟩:=pL _ h1
      exact ⟨_,_,h3,fun K' hk=>h2 _ (h4 _ hk)⟩
  | seq x y ihx ihy =>
    intro S
    show ar (fun (K:Ex→St→Prop)=>gN C pl x S fun e S'=>match e with
      | .nrm=>gN C pl y S' K
      | .ex i=>K (.ex i) S'
      | .ret=>K .ret S')
    refine ar.bind2 ihx (fun e S'=>?_)
    cases e with
    | nrm=>exact ihy
    | ex i=>exact ar.ret _ _
    | ret=>exact ar.ret _ _
  | cond c x y ihx ihy =>
    intro S
    show ar (fun (K:Ex→St→Prop)=>ol c S fun b S'=>match b with
      | true=>gN C pl x S' K
      | false=>gN C pl y S' K)
    refine ar.bind2 CE (fun b S'=>?_)
    cases b with
    | true=>exact ihx
    | false=>exact ihy
  | block id c ih =>
    intro S
    show ar (fun (K:Ex→St→Prop)=>gN C pl c S fun e S'=>match e with
      | .ex i=>match Nat.beq i id with | true=>K .nrm S' | false=>K (.ex i) S'
      | .nrm=>K .nrm S'
      | .ret=>K .ret S')
    refine ar.bind2 ih (fun e S'=>?_)
    cases e with
    | nrm=>exact ar.ret _ _
    | ret=>exact ar.ret _ _
    | ex i =>
      show ar (fun (K:Ex→St→Prop)=>match Nat.beq i id with | true=>K .nrm S' | false=>K (.ex i) S')
      split
      · exact ar.ret _ _
      · exact ar.ret _ _
  | loop c ih=>exact hC.loop _ _ _
  | exit id=>exact ar.ret (Ex.ex id) _
  | ret=>exact ar.ret Ex.ret _
  | _=>exact fun K h=>False.elim h
theorem wF {P:Program} {S:St}:∀ {rs:List ResultVar},aw (xI P S rs)
  | []=>aw.ret _
  | .tmp t::rs=>by
    show aw (fun K=>qD S.t t fun a=>xI P S rs fun as=>K (a::as))
    exact aw.bind gR (fun a=>aw.bind wF (fun as=>aw.ret (a::as)))
  | .cell c t::rs=>by
    show aw (fun K=>qD S.t c fun p=>Fy S p fun row j=>iL P t row j fun x=>xI P S rs fun as=>K (x::as))
    exact aw.bind gR (fun a=>ar.bind vg (fun row j=>aw.bind de (fun x=>aw.bind wF (fun as=>aw.ret (x::as)))))
theorem FY {as:List AV}:aw (AG as):=by
  unfold AG
  split <;> exact aw.ret _
theorem yR {C:Ctx} (hC:gu C) {f:Nat} {args:List AV} {o:List Ob}:ar (ud C f args o):=by
  show ar (fun K:AV→St→Prop=>ud C f args o K)
  have e:(fun K:AV→St→Prop=>ud C f args o K)=fun K=>vP C f args o K:=by funext K; exact propext yP
  rw [e]
  unfold vP
  split
  · rename_i fn _
    have resDet:∀ {S:St},ar (fun K:AV→St→Prop=>xI C.P S fn.results.toList fun rs=>AG rs fun r=>K r S):=fun {S}=>aw.bind2 wF (fun rs=>aw.bind2 FY (fun r=>ar.ret r S))
    split
    · have e2:∀ (p:bK) (k:bK→(AV→St→Prop)→Prop),(fun K=>Cj p fun pl=>k pl K)=fun K=>k p K:=fun p k=>by funext K; exact propext wq
      rw [e2]
      refine ar.bind2 (tl hC _) (fun e S=>?_)
      cases e with
      | ex i=>exact ar.failN
      | nrm=>exact resDet
      | ret=>exact resDet
    · exact ar.failN
  · exact ar.failN
theorem tm {C:Ctx} (hC:gu C) {f:Nat} {args:List AV}:aw (rE C f args):=ar.bind (yR hC) (fun _ _=>lj)
theorem wG {C:Ctx} (hC:gu C) {f:Nat} {args:List AV} {o:List Ob}:ar (s3 C f args o):=by
  show ar (fun (K:AV→List Ob→Prop)=>ud C f args o fun r S=>bG (uM 4 r&&Nat.beq S.b o.length) (K r S.o))
  exact ar.bind2 (yR hC) (fun _ _=>ar.chk (ar.ret _ _))
structure JC (cfg:pZ):Prop where
  sound:∀ f args o K,cfg.xc f args o K→qi cfg.P f args o K
  det:∀ f args o,ar (cfg.xc f args o)
  pure:∀ f args r,cfg.xq f args=some r→Cq cfg.P f args r
theorem JC.none {cfg:pZ} (h:cfg.xc=fun _ _ _ _=>False) (hq:cfg.xq=fun _ _=>none):JC cfg:=⟨fun f args o K hk=>(by rw [h] at hk; exact hk.elim),fun f args o=>(by rw [h]; exact ar.failN (n:=0)),fun f args r e=>(by rw [hq] at e; cases e)⟩
theorem mR {cfg:pZ} (hX:JC cfg):∀ n,gu (gp cfg n)
  | 0=>⟨fun _ _=>aw.failN (n:=123),fun _ _ _=>ar.failN (n:=124),fun _ _ _=>ar.failN (n:=125)⟩
  | n + 1=>⟨fun f args=>by
      show aw fun K=>match cfg.xq f args with | some r=>K r | none=>rE (gp cfg n) f args K
      cases cfg.xq f args with
      | some r=>exact aw.ret r
      | none=>exact tm (mR hX n),fun f args o=>by
      show ar fun K=>match cfg.xs f with | true=>cfg.xc f args o K | false=>s3 (gp cfg n) f args o K
      cases cfg.xs f with
      | true=>exact hX.det _ _ _
      | false=>exact wG (mR hX n),fun pl c S=>by
      have e0:(fun (K:Ex→St→Prop)=>vO (gp cfg n) fun C=>gN C pl c S fun e S'=>match e with
        | .nrm=>C.loop pl c S' K
        | .ex i=>K (.ex i) S'
        | .ret=>K .ret S')=fun K=>gN (gp cfg n) pl c S fun e S'=>match e with
        | .nrm=>(gp cfg n).loop pl c S' K
        | .ex i=>K (.ex i) S'
        | .ret=>K .ret S':=by funext K; exact propext qU
      show ar (fun (K:Ex→St→Prop)=>vO (gp cfg n) fun C=>gN C pl c S fun e S'=>match e with
        | .nrm=>C.loop pl c S' K
        | .ex i=>K (.ex i) S'
        | .ret=>K .ret S')
      rw [e0]
      refine ar.bind2 (tl (mR hX n) c) (fun e S'=>?_)
      cases e with
      | nrm=>exact (mR hX n).loop _ _ _
      | ex i=>exact ar.ret _ _
      | ret=>exact ar.ret _ _⟩
theorem wH {cfg:pZ} (hX:JC cfg) (n:Nat):wu (gp cfg n):=fun f args K h=>by
  obtain ⟨r,h1,h2⟩:=tm (mR hX n) K h
  exact ⟨r,h1,h2 _ rfl⟩
def i5 (S:St) (dst:Option Tmp) (v:AV) (m:Option St):St :=
  k9 (match m with | none=>S | some M=>fg S M) dst v
def kr (S S2:St):Prop:=S2.l=S.l∧S2.o=S.o∧S2.b=S.b
theorem kr.refl (S:St):kr S S:=⟨rfl,rfl,rfl⟩
theorem kr.symm {S S2:St} (h:kr S S2):kr S2 S:=⟨h.1.symm,h.2.1.symm,h.2.2.symm⟩
theorem kr.trans {S S2 S3:St} (h:kr S S2) (k:kr S2 S3):kr S S3:=⟨k.1.trans h.1,k.2.1.trans h.2.1,k.2.2.trans h.2.2⟩
def oZ (xs:List Operand) (S S2:St):Prop:=∀ d,Operand.tmp d∈xs→S2.t[d]?=S.t[d]?
theorem CH {S S2:St} {x:Operand} {k:AV→Prop} (h:cR S x k) (ha:∀ d,x=.tmp d→S2.t[d]?=S.t[d]?):cR S2 x k:=by
  unfold cR at *
  split at h
  · rename_i d
    obtain ⟨c,hc,hk⟩:=cj.1 h
    exact cj.2 ⟨c,by rw [ha d rfl]; exact hc,hk⟩
  · exact h
  · exact h
  · exact h
theorem ir {S S2:St}:∀ {xs:List Operand} {k:List AV→Prop},dp S xs k→oZ xs S S2→dp S2 xs k
  | [],_,h,_=>h
  | x::xs,k,h,ha=>by
    obtain ⟨c,h1,h2⟩:=ck _ h
    have hx:cR S2 x fun a=>dp S2 xs fun as=>k (a::as):=by
      refine CH (S:=S) (h2 _ ?_) (fun d e=>ha d (by rw [← e]; exact List.mem_cons_self))
      exact ir h1 (fun d hd=>ha d (List.mem_cons_of_mem _ hd))
    exact hx
def Looks (site:Option Nat) (S S2:St):Prop :=
  match site with
  | some r=>aL S2.l r=aL S.l r
  | none=>S2.o=S.o
def rY (site:Option Nat) (S M:St):Prop :=
  match site with
  | some r'=>M.o=S.o∧∀ r,r≠r'→aL M.l r=aL S.l r
  | none=>M.l=S.l
theorem Looks.of {site:Option Nat} {S S2:St} (h:kr S S2):Looks site S S2:=by
  cases site with
  | some r=>show aL S2.l r=_; rw [h.1]
  | none=>exact h.2.1
theorem Looks.symm {site:Option Nat} {S S2:St} (h:Looks site S S2):Looks site S2 S:=by
  cases site with
  | some r=>exact Eq.symm h
  | none=>exact Eq.symm h
theorem Looks.trans {site:Option Nat} {S S2 S3:St} (h:Looks site S S2) (k:Looks site S2 S3):Looks site S S3:=by
  cases site with
  | some r=>exact Eq.trans k h
  | none=>exact Eq.trans k h
def uU (pl:bK) (ai:Array Oper) (o:Oper) (S S2:St):Prop :=
  (fC pl o=1→Looks (fD pl ai o) S S2)∧(fC pl o=2→kr S S2)
theorem uU.of {pl:bK} {ai:Array Oper} {o:Oper} {S S2:St} (h:kr S S2):uU pl ai o S S2:=⟨fun _=>.of h,fun _=>h⟩
def uV (pl:bK) (ai:Array Oper) (o:Oper) (S:St) (m:Option St):Prop :=
  (fC pl o≠2→m=none)∧∀ M,m=some M→rY (fD pl ai o) S M
def KR (C:Ctx) (pl:bK) (ai:Array Oper) (o:Oper) (S:St) (v:AV) (m:Option St):Prop :=
  uV pl ai o S m∧∀ S2,oZ o.op.operands.toList S S2→uU pl ai o S S2→∀ K2:St→Prop,K2 (i5 S2 o.dst v m)→qG C pl ai o S2 K2
theorem Bg {S S2:St} (h:kr S S2):cY S2=cY S:=by
  unfold cY
  rw [h.1,h.2.1,h.2.2]
theorem CJ {o:Oper} {t:Nat} (h:addrOf o=some t):Operand.tmp t∈o.op.operands.toList:=by
  unfold addrOf at h
  split at h
  · rename_i ty x ho
    cases h
    rw [ho]
    simp [Op.operands]
  · rename_i ty x y ho
    cases h
    rw [ho]
    simp [Op.operands]
  · cases h
theorem z3 {pl:bK} {ai:Array Oper} {o:Oper} {S S2:St} (ha:oZ o.op.operands.toList S S2):jk pl ai o S2=jk pl ai o S:=by
  unfold jk
  cases ht:addrOf o with
  | none=>rfl
  | some t =>
    dsimp only
    rw [ha t (CJ ht)]
theorem q0 {pl:bK} {ai:Array Oper} {o:Oper} {S:St} {t:Nat} (h:jk pl ai o S=true) (ht:addrOf o=some t):∃ c,S.t[t]?=some c∧oz c (fD pl ai o)=true:=by
  unfold jk at h
  rw [ht] at h
  dsimp only at h
  split at h
  · rename_i c hc
    exact ⟨c,hc,h⟩
  · cases h
theorem o3 {c:AV} {r:Nat} (h:oz c (some r)=true):∃ i j,c=.ptr (.L r) i j:=by
  unfold oz at h
  split at h
  · rename_i d i j r' hr
    cases hr
    have:=Nat.eq_of_beq_eq_true h
    subst this
    exact ⟨i,j,rfl⟩
  · rename_i hr; cases hr
  · rename_i hr; cases hr
  · cases h
theorem uA {c:AV} (h:oz c none=true):(∃ id i j,c=.ptr (.O id) i j)∨∃ row j,c=.fptr row j:=by
  unfold oz at h
  split at h
  · rename_i hr; cases hr
  · rename_i id i j _; exact .inl ⟨id,i,j,rfl⟩
  · rename_i row j _; exact .inr ⟨row,j,rfl⟩
  · cases h
theorem FZ {C:Ctx} {o:Oper} {ty:TypeId} {x:Operand} (ho:o.op=.load ty x) {r i j:Nat} {M M2:St} (h:aL M2.l r=aL M.l r) {k:AV→Prop} (hk:pY C o [.ptr (.L r) i j] M k):pY C o [.ptr (.L r) i j] M2 k:=by
  unfold pY at hk ⊢
  rw [ho] at hk ⊢
  unfold Fy xF at hk ⊢
  dsimp only at hk ⊢
  rw [h]
  exact hk
theorem yS {C:Ctx} {o:Oper} {ty:TypeId} {x:Operand} (ho:o.op=.load ty x) {c:AV} (hc:oz c none=true) {M M2:St} (h:M2.o=M.o) {k:AV→Prop} (hk:pY C o [c] M k):pY C o [c] M2 k:=by
  unfold pY at hk ⊢
  rw [ho] at hk ⊢
  rcases uA hc with ⟨id,i,j,rfl⟩ | ⟨row,j,rfl⟩
  · unfold Fy xF at hk ⊢
    dsimp only at hk ⊢
    rw [h]
    exact hk
  · exact hk
theorem Hy {size:Nat} {x:AV} {S S2:St} (h:S2.o=S.o) {k:Bool→List (List AV)→Prop}:jR size S x k→jR size S2 x k:=by
  obtain ⟨t,l,oo,b⟩:=S
  obtain ⟨t2,l2,oo2,b2⟩:=S2
  have h':oo2=oo:=h
  subst h'
  unfold jR
  split <;> exact fun h=>h
theorem Bh {P:Program} {src dst:TypeId} {x:AV} {S S2:St} (h:S2.o=S.o) {k:AV→Prop}:fx P src dst x S k→fx P src dst x S2 k:=by
  unfold fx
  split
  · split
    · intro hk
      obtain ⟨h1,h2⟩:=ac hk
      exact al h1 (Hy h h2)
    · exact fun h=>h
  · exact fun h=>h
theorem JQ {C:Ctx} {o:Oper} (ho:∀ ty x,o.op≠.load ty x) {vs:List AV} {M M2:St} (h:M2.o=M.o) {k:AV→Prop}:pY C o vs M k→pY C o vs M2 k:=by
  obtain ⟨t,l,oo,b⟩:=M
  obtain ⟨t2,l2,oo2,b2⟩:=M2
  have h':oo2=oo:=h
  subst h'
  unfold pY
  split
  all_goals first
    | exact fun h=>h
    | exact Bh rfl
    | (exfalso; rename_i h1; exact ho _ _ h1)
    | (exfalso; rename_i h1 _; exact ho _ _ h1)
theorem wJ {S:St} {g:Nat} {xs:List Operand} {k:List AV→Prop} (h:dp S (.global g::xs) k):∃ row,dp S xs fun as=>k (.fptr row 0::as):=by
  have h':cR S (.global g) fun a=>dp S xs fun as=>k (a::as):=h
  cases hg:II g with
  | none=>simp only [cR,hg] at h'; exact False.elim h'
  | some row=>simp only [cR,hg] at h'; exact ⟨row,h'⟩
theorem yT {S:St} {t:Nat} {k:List AV→Prop} {a:AV} (ha:S.t[t]?=some a) (h:dp S [.tmp t] k):k [a]:=by
  obtain ⟨c,hc,h⟩:=cj.1 h
  rw [ha] at hc
  cases hc
  exact h
theorem yU {S:St} {t:Nat} {y:Operand} {k:List AV→Prop} {a:AV} (ha:S.t[t]?=some a) (h:dp S [.tmp t,y] k):∃ b,k [a,b]:=by
  obtain ⟨c,hc,h⟩:=cj.1 h
  rw [ha] at hc
  cases hc
  obtain ⟨b,h1,_⟩:=ck _ h
  exact ⟨b,h1⟩
theorem F1 {C:Ctx} {o:Oper} {c:AV} {site:Option Nat} {y:AV} {M:St} {k:AV→St→Prop} (hs:oz c site=true) (h:yr C o [c,y] M k):yr C o [c,y] M fun v M'=>k v M'∧rY site M M':=by
  obtain ⟨v,M',h1,h2⟩:=lX _ h
  refine h2 _ ⟨h1,?_⟩
  have h3:=h2 (fun _ M''=>M''=M') rfl
  unfold yr at h3
  split at h3
  · rename_i ty X Y p z ho e
    cases e
    obtain ⟨cs,h4,_⟩:=b_ _ h3
    split at h4
    · obtain ⟨_,h4⟩:=ac h4
      cases site with
      | some r' =>
        obtain ⟨i,j,rfl⟩:=o3 hs
        unfold ma at h4
        dsimp only at h4
        split at h4
        · rename_i row hrow
          split at h4
          · obtain ⟨_,h4⟩:=ac h4
            rw [dD,iQ] at h4
            subst h4
            refine ⟨rfl,fun r hr=>?_⟩
            show aL (rB M.l r' _) r=_
            rw [jo hrow,if_neg (fun e=>hr e.symm)]
          · exact False.elim h4
        · exact False.elim h4
      | none =>
        rcases uA hs with ⟨id,i,j,rfl⟩ | ⟨row,j,rfl⟩
        · unfold ma at h4
          dsimp only at h4
          split at h4
          · split at h4
            · obtain ⟨_,h4⟩:=ac h4
              rw [dD,ax] at h4
              subst h4
              rfl
            · exact False.elim h4
          · exact False.elim h4
        · exact False.elim h4
    · exact False.elim h4
  · exact False.elim h3
theorem wL {P:Program} {t:TypeId} {l c:AV} {M:St} {k:St→AV→Prop} (h:bQ P t l c M k):bQ P t l c M fun M' r=>k M' r∧M'.l=M.l:=by
  obtain ⟨M',r,h1,h2⟩:=eG _ h
  refine h2 _ ⟨h1,?_⟩
  have h3:=h2 (fun M'' _=>M''=M') rfl
  unfold bQ at h3
  split at h3
  · split at h3
    · obtain ⟨n,h4,_⟩:=bd _ h3
      obtain ⟨m,h5,_⟩:=bd _ h4
      obtain ⟨_,h5⟩:=ac h5
      obtain ⟨z,h6,_⟩:=aP _ h5
      obtain ⟨_,h6⟩:=ac h6
      rw [ax] at h6
      rw [← h6]
    · exact False.elim h3
  · exact False.elim h3
theorem wM {M:St} {pk:Bool} {id i:Nat} {k:AV→St→Prop} (h:fh M pk id i k) (hk:∀ v M',M'.l=M.l→k v M'→False):False:=by
  unfold fh at h
  split at h
  · split at h
    · exact hk _ _ (by rfl) h
    · split at h
      · exact hk _ _ (by rfl) h
      · rw [b9,ax] at h
        exact hk _ _ (by rfl) h
    · exact h
  · exact h
theorem CK {P:Program} {t:TypeId} {same pk:Bool} {M:St} {id i:Nat} {k:AV→St→Prop} (h:iN P t same pk M id i k) (hk:∀ v M',M'.l=M.l→k v M'→False):False:=by
  unfold iN at h
  split at h
  · split at h
    · obtain ⟨_,h⟩:=ac h
      obtain ⟨r,h,_⟩:=de _ h
      exact hk _ _ (by rfl) h
    · exact h
  · refine wM h (fun v M' e h=>?_)
    obtain ⟨r,h,_⟩:=de _ h
    exact hk _ _ e h
theorem Bi {P:Program} {t:TypeId} {M:St} {id i:Nat} {v:AV} {K:St→Prop} (h:gm P t M id i v K) (hk:∀ M',M'.l=M.l→K M'→False):False:=by
  unfold gm at h
  split at h
  · obtain ⟨_,h⟩:=ac h
    rw [ax] at h
    exact hk _ (by rfl) h
  · exact h
theorem CL {P:Program} {t:TypeId} {nw:Bool} {j:Nat} {l c:AV} {M:St} {k:AV→St→Prop} (h:gM P nw j t l c M k) (hk:∀ v M',M'.l=M.l→k v M'→False):False:=by
  unfold gM at h
  split at h
  · split at h
    · split at h
      · obtain ⟨n,h,_⟩:=bd _ h
        obtain ⟨m,h,_⟩:=bd _ h
        obtain ⟨_,h⟩:=ac h
        obtain ⟨z,h,_⟩:=aP _ h
        split at h
        · obtain ⟨_,h,_⟩:=h_ _ h
          exact hk _ _ (by rfl) h
        · exact h
      · exact h
    · exact h
  · exact h
theorem xV {P:Program} {t:TypeId} {M:St} {k:AV→St→Prop} (h:fY P t M k) (hk:∀ v M',M'.l=M.l→k v M'→False):False:=by
  unfold fY at h
  split at h
  · split at h
    · split at h
      · obtain ⟨_,h⟩:=ac h
        rw [ax] at h
        exact hk _ _ (by rfl) h
      · exact h
    · exact h
  · exact h
theorem CM {P:Program} {t:TypeId} {m key:AV} {ok:Bool} {M:St} {k:AV→St→Prop} (h:iO P t m key ok M k) (hk:∀ v M',M'.l=M.l→k v M'→False):False:=by
  unfold iO at h
  split at h
  · split at h
    · split at h
      · obtain ⟨x,r,h,_⟩:=di _ h
        split at h
        · refine wM h (fun v M' e h=>?_)
          obtain ⟨r,h,_⟩:=fA _ h
          exact hk _ _ e h
        · obtain ⟨r,h,_⟩:=eu _ h
          exact hk _ _ (by rfl) h
      · exact h
    · exact h
  · exact h
theorem yV {P:Program} {t:TypeId} {m key x:AV} {M:St} {K:St→Prop} (h:jG P t m key x M K) (hk:∀ M',M'.l=M.l→K M'→False):False:=by
  unfold jG at h
  split at h
  · split at h
    · split at h
      · obtain ⟨_,h⟩:=ac h
        obtain ⟨x,r,h,_⟩:=di _ h
        obtain ⟨_,h⟩:=ac h
        split at h
        · obtain ⟨_,h⟩:=ac h
          rw [ax] at h
          exact hk _ (by rfl) h
        · split at h
          · rw [ax] at h
            exact hk _ (by rfl) h
          · exact h
      · exact h
    · exact h
  · exact h
theorem Bj {M:St} {x:AV} {X:Nat→Nat→Prop} (h:jj M x X) (hk:∀ id i,X id i→False):False:=by
  unfold jj at h
  split at h
  · split at h
    · exact hk _ _ h
    · exact h
  · exact h
theorem IU {P:Program} {pl:bK} {o:Oper} {vs:List AV} {M:St} {k:AV→St→Prop} (h:lJ P pl o vs M k) (hk:∀ v M',M'.l=M.l→k v M'→False):False:=by
  unfold lJ at h
  split at h
  · exact Bj h (fun _ _ h=>CK h hk)
  · exact Bj h (fun _ _ h=>Bi h (fun M' e h=>hk _ _ e h))
  · exact CL h hk
  · exact xV h hk
  · exact CM h hk
  · exact yV h (fun M' e h=>hk _ _ e h)
  · exact yV h (fun M' e h=>hk _ _ e h)
  · exact h
theorem ER {P:Program} {pl:bK} {o:Oper} {vs:List AV} {M:St} {k:AV→St→Prop} (h:lJ P pl o vs M k):lJ P pl o vs M fun v M'=>k v M'∧M'.l=M.l:=by
  obtain ⟨v,M',h1,h2⟩:=wB _ h
  refine h2 _ ⟨h1,?_⟩
  by_cases e:M'.l=M.l
  · exact e
  · exact (IU (h2 (fun _ M''=>M''.l≠M.l) e) (fun _ _ e h=>h e)).elim
theorem F2 {P:Program} {pl:bK} {o:Oper} {x:AV} {vs:List AV} {M:St} {k:AV→St→Prop} (h:lJ P pl o (x::vs) M k) (ht:(addrOf o).isSome=true):∀ d i j,x≠.ptr (.L d) i j:=by
  intro d i j e
  subst e
  unfold lJ at h
  unfold addrOf at ht
  split at h
  · rename_i he
    cases he
    exact h
  · rename_i he
    cases he
    exact h
  · rename_i ho _
    rw [ho] at ht
    cases ht
  · rename_i he
    cases he
  · rename_i ho _
    rw [ho] at ht
    cases ht
  · rename_i ho _
    rw [ho] at ht
    cases ht
  · rename_i ho _
    rw [ho] at ht
    cases ht
  · exact h
def yW (pl:bK) (o:Oper):Prop:=((∃ t X Y,o.op=.makeSlice t X Y)∨∃ c,o.op=.call c)∨fX pl o=true
theorem yX {pl:bK} {o:Oper} (h:¬ yW pl o):fX pl o=false:=by
  cases e:fX pl o with
  | false=>rfl
  | true=>exact absurd (.inr e) h
theorem yY {pl:bK} {o:Oper} (h:fC pl o≠2):fX pl o=false:=by
  cases e:fX pl o with
  | false=>rfl
  | true=>exact absurd (by unfold fC; rw [e]) h
theorem q6 {C:Ctx} {pl:bK} {o:Oper} {vs:List AV} {M:St} {k:AV→St→Prop} (h:¬ yW pl o):m_ C pl o vs M k=yr C o vs M k:=by
  unfold m_
  rw [yX h]
  dsimp only
  unfold lS
  split
  · rename_i t X Y l c ho
    exact absurd (.inl (.inl ⟨t,X,Y,ho⟩)) h
  · rename_i c _ _ _ _ ho
    exact absurd (.inl (.inr ⟨c,ho⟩)) h
  · rfl
theorem ES {C:Ctx} (hC:gu C) {pl:bK} {o:Oper} {vs:List AV} {M:St} {k:AV→St→Prop} (hm:yW pl o) (h:m_ C pl o vs M k):m_ C pl o vs M fun v M'=>k v M'∧M'.l=M.l:=by
  unfold m_ at h ⊢
  cases e:fX pl o with
  | true =>
    rw [e] at h
    exact ER h
  | false =>
    rw [e] at h
    have hm:(∃ t X Y,o.op=.makeSlice t X Y)∨∃ c,o.op=.call c:=by
      rcases hm with hm | hm
      · exact hm
      · rw [e] at hm; cases hm
    dsimp only at h ⊢
    unfold lS at h ⊢
    split at h
    · rename_i t' X' Y' l c ho'
      exact wL h
    · split at h
      · obtain ⟨h1,h⟩:=ac h
        refine al h1 ?_
        obtain ⟨r,o',h2,h3⟩:=hC.scall _ _ _ _ h
        refine h3 _ ?_
        obtain ⟨h4,h5⟩:=ac h2
        exact al h4 ⟨h5,rfl⟩
      · exact h.elim
    · exfalso
      unfold yr at h
      split at h
      · rename_i heq x1 x2
        rcases hm with ⟨t,X,Y,ho⟩ | ⟨c,ho⟩ <;> (rw [ho] at heq; cases heq)
      · exact h
theorem F3 {pl:bK} {o:Oper} {ty:TypeId} {x:Operand} (hw:fX pl o=false) (ho:o.op=.load ty x):fC pl o=1:=by
  unfold fC
  rw [hw]
  dsimp only
  unfold yu
  rw [ho]
  dsimp only
  unfold FH
  rw [ho]
theorem ET {pl:bK} {o:Oper} {ty:TypeId} {x y:Operand} (hw:fX pl o=false) (ho:o.op=.store ty x y):fC pl o=2:=by
  unfold fC
  rw [hw]
  dsimp only
  unfold yu
  rw [ho]
  dsimp only
  unfold FH
  rw [ho]
theorem CN {C:Ctx} {pl:bK} {ai:Array Oper} {o:Oper} {S:St} {vs:List AV} {k:AV→St→Prop} (hm:yW pl o) (hkey:jk pl ai o S=true) (hget:dp S o.op.operands.toList (fun x=>x=vs)) (h:m_ C pl o vs (cY S) k):fD pl ai o=none:=by
  cases ht:addrOf o with
  | none=>unfold fD; rw [ht]
  | some t =>
    obtain ⟨c,hc1,hc2⟩:=q0 hkey ht
    cases hs:fD pl ai o with
    | none=>rfl
    | some r =>
      exfalso
      rw [hs] at hc2
      obtain ⟨i,j,rfl⟩:=o3 hc2
      have hw:fX pl o=true:=by
        rcases hm with (⟨t',X,Y,ho⟩ | ⟨c,ho⟩) | hm
        · unfold addrOf at ht; rw [ho] at ht; cases ht
        · unfold addrOf at ht; rw [ho] at ht; cases ht
        · exact hm
      unfold m_ at h
      rw [hw] at h
      dsimp only at h
      have hx:∃ ys,vs=.ptr (.L r) i j::ys:=by
        unfold addrOf at ht
        split at ht
        · rename_i ty x ho
          cases ht
          have hop:o.op.operands.toList=[.tmp t]:=by rw [ho]; simp [Op.operands]
          rw [hop] at hget
          exact ⟨[],(yT hc1 hget).symm⟩
        · rename_i ty x y ho
          cases ht
          have hop:o.op.operands.toList=[.tmp t,y]:=by rw [ho]; simp [Op.operands]
          rw [hop] at hget
          obtain ⟨b,hb⟩:=yU hc1 hget
          exact ⟨[b],hb.symm⟩
        · cases ht
      obtain ⟨ys,rfl⟩:=hx
      exact F2 h (by rw [ht]; rfl) r i j rfl
theorem EU {pl:bK} {o:Oper} {t:Nat} (h:addrOf o=some t) (hc:fC pl o=1):∃ ty,o.op=.load ty (.tmp t):=by
  unfold addrOf at h
  split at h
  · rename_i ty x ho
    cases h
    exact ⟨ty,ho⟩
  · rename_i ty x y ho
    rw [ET (yY (by rw [hc]; decide)) ho] at hc
    cases hc
  · cases h
theorem CO {pl:bK} {o:Oper} {t:Nat} (h:addrOf o=some t) (hw:fX pl o=false) (hc:fC pl o=2):∃ ty y,o.op=.store ty (.tmp t) y:=by
  unfold addrOf at h
  split at h
  · rename_i ty x ho
    rw [F3 hw ho] at hc
    cases hc
  · rename_i ty x y ho
    cases h
    exact ⟨ty,y,ho⟩
  · cases h
theorem Dv {C:Ctx} (hC:gu C) {pl:bK} {ai:Array Oper} {o:Oper} {S:St} {K:St→Prop} (hez:Cg (fC pl o)=true) (h:qG C pl ai o S K):∃ v m,KR C pl ai o S v m∧K (i5 S o.dst v m):=by
  obtain ⟨hkey,h⟩:=ac h
  have fin:∀ {S2:St} {K2:St→Prop},oZ o.op.operands.toList S S2→xE C pl o S2 K2→qG C pl ai o S2 K2:=fun ha h=>al (by rw [z3 ha]; exact hkey) h
  unfold xE at h
  split at h
  · rename_i hc
    obtain ⟨vs,h1,h2⟩:=bc _ h
    obtain ⟨r,h3,h4⟩:=vh _ h1
    rw [aB] at h3
    refine ⟨r,none,⟨⟨fun _=>rfl,fun M e=>by cases e⟩,fun S2 ha _ K2 hk=>fin ha ?_⟩,h3⟩
    unfold xE
    rw [hc]
    refine ir (S:=S) (h2 (fun vs=>pop C pl o vs fun r=>bB o.dst r S2 K2) (h4 _ ?_)) ha
    rw [aB]
    exact hk
  · rename_i hc
    obtain ⟨vs,h1,h2⟩:=bc _ h
    obtain ⟨r,h3,h4⟩:=vi hC _ h1
    rw [aB] at h3
    refine ⟨r,none,⟨⟨fun _=>rfl,fun M e=>by cases e⟩,fun S2 ha hm K2 hk=>fin ha ?_⟩,h3⟩
    unfold xE
    rw [hc]
    have h5:=h4 (fun r=>bB o.dst r S2 K2) (by rw [aB]; exact hk)
    have hm1:=hm.1 hc
    refine ir (S:=S) (h2 (fun vs=>pY C o vs (cY S2) fun r=>bB o.dst r S2 K2) ?_) ha
    cases ht:addrOf o with
    | some t =>
      obtain ⟨c,hc1,hc2⟩:=q0 hkey ht
      obtain ⟨ty,ho⟩:=EU ht hc
      have hop:o.op.operands.toList=[.tmp t]:=by rw [ho]; simp [Op.operands]
      have hvs:vs=[c]:=by
        have:=h2 (fun x=>x=vs) rfl
        rw [hop] at this
        exact (yT hc1 this).symm
      subst hvs
      cases hs:fD pl ai o with
      | some r =>
        rw [hs] at hm1 hc2
        obtain ⟨i,j,rfl⟩:=o3 hc2
        exact FZ ho (M:=cY S) hm1 h5
      | none =>
        rw [hs] at hm1 hc2
        exact yS ho hc2 (M:=cY S) hm1 h5
    | none =>
      have hs:fD pl ai o=none:=by unfold fD; rw [ht]
      rw [hs] at hm1
      by_cases hl:∃ ty x,o.op=.load ty x
      · obtain ⟨ty,x,ho⟩:=hl
        have hop:o.op.operands.toList=[x]:=by rw [ho]; simp [Op.operands]
        by_cases hglob:∃ g,x=.global g
        · obtain ⟨g,rfl⟩:=hglob
          have hv:=h2 (fun x=>x=vs) rfl
          rw [hop] at hv
          obtain ⟨row,hv⟩:=wJ hv
          have hv':[AV.fptr row 0]=vs:=hv
          subst hv'
          exact yS ho rfl (M:=cY S) hm1 h5
        exfalso
        cases x with
        | tmp t=>unfold addrOf at ht; rw [ho] at ht; cases ht
        | const cc =>
          have hv:=h2 (fun x=>x=vs) rfl
          rw [hop] at hv
          have hv':vs=[Es cc]:=by
            have:jh (Es cc) (fun a=>[a]=vs):=hv
            rw [b9] at this
            exact this.symm
          subst hv'
          have h6:=h1
          unfold pY at h6
          rw [ho] at h6
          have h7:Fy (cY S) (Es cc) fun row j=>iL C.P ty row j fun r=>bB o.dst r S K:=h6
          have hno:∀ c:Value,(∀ k i j,Es c≠.ptr k i j)∧∀ r j,Es c≠.fptr r j:=by
            intro c
            refine ⟨fun k i j=>?_,fun r j=>?_⟩ <;>
            · unfold Es
              split
              · intro h; cases h
              · unfold vz
                split <;> intro h <;> cases h
          unfold Fy at h7
          split at h7
          · rename_i k i j he; exact (hno cc).1 _ _ _ he
          · rename_i r j he; exact (hno cc).2 _ _ he
          · exact h7
        | func f =>
          have hv:=h2 (fun x=>x=vs) rfl
          rw [hop] at hv
          have hv':[AV.fn f [] []]=vs:=hv
          subst hv'
          have h6:=h1
          unfold pY at h6
          rw [ho] at h6
          exact h6
        | global g=>exact hglob ⟨g,rfl⟩
      · exact JQ (fun ty x he=>hl ⟨ty,x,he⟩) (M:=cY S) hm1 h5
  · rename_i hc
    obtain ⟨vs,h1,h2⟩:=bc _ h
    by_cases hmk:yW pl o
    · obtain ⟨r,M,⟨h3,h5⟩,h4⟩:=Bc hC _ (ES hC hmk h1)
      rw [aB] at h3
      refine ⟨r,some M,⟨⟨fun hn=>absurd hc hn,fun M' e=>?_⟩,fun S2 ha hm K2 hk=>fin ha ?_⟩,h3⟩
      · cases e
        rw [CN hmk hkey (h2 (fun x=>x=vs) rfl) h1]
        exact h5
      · unfold xE
        rw [hc]
        have hm':=Bg (hm.2 hc)
        refine ir (S:=S) (h2 (fun vs=>m_ C pl o vs (cY S2) fun r M=>bB o.dst r (fg S2 M) K2) ?_) ha
        rw [hm']
        refine h4 _ ?_
        rw [aB]
        exact hk
    rw [q6 hmk] at h1
    have hkeep:yr C o vs (cY S) fun v M'=>(fun v M=>bB o.dst v (fg S M) K) v M'∧(∀ t,addrOf o=some t→rY (fD pl ai o) S M'):=by
      cases ht:addrOf o with
      | none =>
        obtain ⟨r,M,h3,h4⟩:=lX _ h1
        exact h4 _ ⟨h3,fun t e=>by cases e⟩
      | some t =>
        obtain ⟨c,hc1,hc2⟩:=q0 hkey ht
        obtain ⟨ty,y,ho⟩:=CO ht (yX hmk) hc
        have hop:o.op.operands.toList=[.tmp t,y]:=by rw [ho]; simp [Op.operands]
        have hvs:∃ b,vs=[c,b]:=by
          have:=h2 (fun x=>x=vs) rfl
          rw [hop] at this
          obtain ⟨b,hb⟩:=yU hc1 this
          exact ⟨b,hb.symm⟩
        obtain ⟨b,rfl⟩:=hvs
        obtain ⟨r,M,h3,h4⟩:=lX _ (F1 hc2 h1)
        exact h4 _ ⟨h3.1,fun t' _=>(show rY (fD pl ai o) (cY S) M from h3.2)⟩
    obtain ⟨r,M,⟨h3,h5⟩,h4⟩:=lX _ hkeep
    rw [aB] at h3
    refine ⟨r,some M,⟨⟨fun hn=>absurd hc hn,fun M' e=>?_⟩,fun S2 ha hm K2 hk=>fin ha ?_⟩,h3⟩
    · cases e
      cases ht:addrOf o with
      | some t=>exact h5 t ht
      | none =>
        exfalso
        have h6:=h4 (fun _ _=>True) trivial
        unfold yr at h6
        split at h6
        · rename_i ty X Y p z ho
          cases X with
          | tmp t=>unfold addrOf at ht; rw [ho] at ht; cases ht
          | const cc =>
            have hv:=h2 (fun x=>x=[p,z]) rfl
            have hop:o.op.operands.toList=[.const cc,Y]:=by rw [ho]; simp [Op.operands]
            rw [hop] at hv
            have hv':jh (Es cc) fun a=>cR S Y fun b=>[a,b]=[p,z]:=hv
            rw [b9] at hv'
            obtain ⟨b,hb,_⟩:=ck _ hv'
            cases hb
            obtain ⟨cs,h7,_⟩:=b_ _ h6
            have hno:∀ c:Value,∀ k i j,Es c≠.ptr k i j:=by
              intro c k i j
              unfold Es
              split
              · intro h; cases h
              · unfold vz
                split <;> intro h <;> cases h
            split at h7
            · obtain ⟨_,h7⟩:=ac h7
              unfold ma at h7
              split at h7
              · rename_i he; exact hno cc _ _ _ he
              · rename_i he; exact hno cc _ _ _ he
              · exact h7
            · exact h7
          | func f =>
            have hv:=h2 (fun x=>x=[p,z]) rfl
            have hop:o.op.operands.toList=[.func f,Y]:=by rw [ho]; simp [Op.operands]
            rw [hop] at hv
            have hv':cR S Y fun b=>[AV.fn f [] [],b]=[p,z]:=hv
            obtain ⟨b,hb,_⟩:=ck _ hv'
            cases hb
            obtain ⟨cs,h7,_⟩:=b_ _ h6
            split at h7
            · obtain ⟨_,h7⟩:=ac h7
              exact h7
            · exact h7
          | global g =>
            have hv:=h2 (fun x=>x=[p,z]) rfl
            have hop:o.op.operands.toList=[.global g,Y]:=by rw [ho]; simp [Op.operands]
            rw [hop] at hv
            obtain ⟨row,hv⟩:=wJ hv
            have hv':cR S Y fun b=>[AV.fptr row 0,b]=[p,z]:=hv
            obtain ⟨b,hb,_⟩:=ck _ hv'
            cases hb
            obtain ⟨cs,h7,_⟩:=b_ _ h6
            split at h7
            · obtain ⟨_,h7⟩:=ac h7
              exact h7
            · exact h7
        · exact h6
    · unfold xE
      rw [hc]
      have hm':=Bg (hm.2 hc)
      refine ir (S:=S) (h2 (fun vs=>m_ C pl o vs (cY S2) fun r M=>bB o.dst r (fg S2 M) K2) ?_) ha
      rw [hm',q6 hmk]
      refine h4 _ ?_
      rw [aB]
      exact hk
  · rename_i hc
    split at h
    · rename_i d hd
      rw [aB] at h
      refine ⟨_,none,⟨⟨fun _=>rfl,fun M e=>by cases e⟩,fun S2 ha _ K2 hk=>fin ha ?_⟩,h⟩
      unfold xE
      rw [hc]
      show match o.dst with
        | some d=>bB o.dst (.ptr (.L d) 0 0) S2 K2
        | none=>af 217
      split
      · rename_i d2 hd2
        rw [hd] at hd2
        cases hd2
        rw [aB]
        exact hk
      · rename_i hd2
        rw [hd] at hd2
        cases hd2
    · exact False.elim h
  · rename_i hc
    obtain ⟨vs,h1,h2⟩:=bc _ h
    obtain ⟨r,h3,h4⟩:=vj _ h1
    rw [aB] at h3
    refine ⟨r,none,⟨⟨fun _=>rfl,fun M e=>by cases e⟩,fun S2 ha _ K2 hk=>fin ha ?_⟩,h3⟩
    unfold xE
    rw [hc]
    refine ir (S:=S) (h2 (fun vs=>IK C o vs fun r=>bB o.dst r S2 K2) (h4 _ ?_)) ha
    rw [aB]
    exact hk
  · rename_i h0 h1 h2 h4 h5
    exfalso
    unfold Cg at hez
    split at hez
    · rename_i he; exact h0 he
    · rename_i he; exact h1 he
    · rename_i he; exact h2 he
    · rename_i he; exact h4 he
    · rename_i he; exact h5 he
    · cases hez
theorem z4 {S:St} {t:List AV} (h:t=S.t):({ t:=t,l:=S.l,o:=S.o,b:=S.b }:St)=S:=by
  subst h; rfl
theorem f0 {t:List AV} {d:Nat} {x:AV} (h:t[d]?=some x):t.set d x=t:=by
  apply List.ext_getElem?
  intro j
  rw [List.getElem?_set]
  by_cases hj:d=j
  · subst hj
    rw [if_pos rfl,if_pos (List.getElem?_eq_some_iff.1 h).1,h]
  · rw [if_neg hj]
def Dw (S:St) (d:Nat) (b:Option Bool):Prop :=
  match b with
  | some b=>S.t[d]?=some (.v (.bool b))
  | none=>S.t[d]?=some (.tup [])
theorem uB {d:Nat} {S:St} {k:Option Bool→St→Prop}:gn d S k↔∃ b,Dw S d b∧k b S:=by
  constructor
  · intro h
    unfold gn at h
    rw [cj] at h
    obtain ⟨c,hc,h⟩:=h
    split at h
    · rename_i b
      rcases mL h with ⟨hb,h2⟩ | ⟨hb,h2⟩
      · subst hb
        rw [d3,z4 (f0 hc)] at h2
        exact ⟨some true,hc,h2⟩
      · subst hb
        rw [d3,z4 (f0 hc)] at h2
        exact ⟨some false,hc,h2⟩
    · exact ⟨none,hc,h⟩
    · exact False.elim h
  · rintro ⟨b,hb,h⟩
    unfold gn
    rw [cj]
    cases b with
    | none=>exact ⟨_,hb,h⟩
    | some b =>
      refine ⟨_,hb,?_⟩
      dsimp only
      refine Cm (fun e=>?_) (fun e=>?_)
      · subst e; rw [d3,z4 (f0 hb)]; exact h
      · subst e; rw [d3,z4 (f0 hb)]; exact h
def agree (ai:Array Oper) (o:Oper) (S S2:St):Prop:=∀ d∈o.looksAt ai,S2.t[d]?=S.t[d]?
def Eff (C:Ctx) (pl:bK) (ai:Array Oper) (o:Oper) (S:St) (v:AV) (m:Option St):Prop :=
  uV pl ai o S m∧∀ S2,agree ai o S S2→uU pl ai o S S2→∀ K2:St→Prop,K2 (i5 S2 o.dst v m)→ag C pl ai o S2 K2
theorem yZ {ai:Array Oper} {o:Oper} {S S2:St} (h:agree ai o S S2):oZ o.op.operands.toList S S2:=fun d hd =>
  h d (List.mem_append_left _ (List.mem_filterMap.2 ⟨.tmp d,hd,rfl⟩))
theorem F4 {C:Ctx} (hC:gu C) {pl:bK} {ai:Array Oper} {o:Oper} {S:St} {K:St→Prop} (hez:Cg (fC pl o)=true) (h:ag C pl ai o S K):∃ v m,Eff C pl ai o S v m∧K (i5 S o.dst v m):=by
  unfold ag at h
  split at h
  · rename_i hg
    obtain ⟨v,m,⟨h1,h2⟩,h3⟩:=Dv hC hez h
    refine ⟨v,m,⟨h1,fun S2 ha hm K2 hk=>?_⟩,h3⟩
    unfold ag
    rw [hg]
    exact h2 S2 (yZ ha) hm K2 hk
  · rename_i j want hg
    split at h
    · exact False.elim h
    · rename_i d hd
      obtain ⟨b,hb,h⟩:=uB.1 h
      have hlook:d∈o.looksAt ai:=List.mem_append_right _ (by
        rw [hg]
        unfold rD at hd
        simp [hd])
      have hin:∀ (S2:St) (K2:St→Prop),agree ai o S S2→gsel b want (qG C pl ai o S2 K2) (bB o.dst (.tup []) S2 K2)→ag C pl ai o S2 K2:=by
        intro S2 K2 ha hk
        unfold ag
        rw [hg]
        dsimp only
        rw [hd]
        refine uB.2 ⟨b,?_,hk⟩
        unfold Dw at hb ⊢
        rw [ha d hlook]
        exact hb
      have yes:qG C pl ai o S K→(∀ (S2:St) (K2:St→Prop),agree ai o S S2→qG C pl ai o S2 K2→ag C pl ai o S2 K2)→∃ v m,Eff C pl ai o S v m∧K (i5 S o.dst v m):=by
        intro h hi
        obtain ⟨v,m,⟨h1,h2⟩,h3⟩:=Dv hC hez h
        exact ⟨v,m,⟨h1,fun S2 ha hm K2 hk=>hi S2 K2 ha (h2 S2 (yZ ha) hm K2 hk)⟩,h3⟩
      have no:bB o.dst (.tup []) S K→(∀ (S2:St) (K2:St→Prop),agree ai o S S2→bB o.dst (.tup []) S2 K2→ag C pl ai o S2 K2)→∃ v m,Eff C pl ai o S v m∧K (i5 S o.dst v m):=by
        intro h hi
        rw [aB] at h
        exact ⟨.tup [],none,⟨⟨fun _=>rfl,fun M e=>by cases e⟩,fun S2 ha _ K2 hk=>hi S2 K2 ha (by rw [aB]; exact hk)⟩,h⟩
      cases b with
      | none=>exact no h (fun S2 K2 ha hk=>hin S2 K2 ha hk)
      | some b =>
        cases b <;> cases want
        · exact yes h (fun S2 K2 ha hk=>hin S2 K2 ha hk)
        · exact no h (fun S2 K2 ha hk=>hin S2 K2 ha hk)
        · exact no h (fun S2 K2 ha hk=>hin S2 K2 ha hk)
        · exact yes h (fun S2 K2 ha hk=>hin S2 K2 ha hk)
theorem F5 {S:St} {dst:Option Tmp} {v:AV} {m:Option St} {d:Nat} (h:dst≠some d):(i5 S dst v m).t[d]?=S.t[d]?:=by
  unfold i5 k9
  cases dst with
  | none=>cases m <;> rfl
  | some e =>
    have hne:e≠d:=fun he=>h (by rw [he])
    cases m <;> simp [fg,List.getElem?_set_ne hne]
theorem wN {S:St} {dst:Option Tmp} {v:AV}:kr S (i5 S dst v none):=by
  unfold i5 k9
  cases dst <;> exact ⟨rfl,rfl,rfl⟩
def wO (pl:bK) (ai:Array Oper) (x y:Oper):Prop :=
  fC pl x=2→fC pl y≠2∧(fC pl y=1→jl pl ai x y=true)
theorem uW {pl:bK} {ai:Array Oper} {x y:Oper} (h:jl pl ai x y=true):jl pl ai y x=true:=by
  revert h
  unfold jl
  generalize fD pl ai x=a
  generalize fD pl ai y=b
  intro h
  cases a with
  | none=>cases b with
    | none=>exact h
    | some b=>rfl
  | some a=>cases b with
    | none=>rfl
    | some b =>
      have h':(!(Nat.beq a b))=true:=h
      show (!(Nat.beq b a))=true
      cases hb:Nat.beq b a with
      | false=>rfl
      | true =>
        have:=Nat.eq_of_beq_eq_true hb
        subst this
        rw [hb] at h'
        cases h'
theorem Bl {pl:bK} {ai:Array Oper} {x y:Oper} (h:vN pl ai x y=true):x.apart ai y=true∧wO pl ai x y∧wO pl ai y x∧Cg (fC pl x)=true∧Cg (fC pl y)=true:=by
  unfold vN at h
  simp only [Bool.and_eq_true] at h
  refine ⟨h.1,fun e=>⟨fun e2=>?_,fun e2=>?_⟩,fun e=>⟨fun e2=>?_,fun e2=>?_⟩,?_,?_⟩
  · have h2:=h.2
    rw [e,e2] at h2
    simp at h2
  · have h2:=h.2
    rw [e,e2] at h2
    exact h2
  · have h2:=h.2
    rw [e,e2] at h2
    simp at h2
  · have h2:=h.2
    rw [e,e2] at h2
    exact uW h2
  · have h2:=h.2
    revert h2
    split <;> rename_i h3 h4 <;> intro h2 <;> first | (rw [h3]; rfl) | cases h2
  · have h2:=h.2
    revert h2
    split <;> rename_i h3 h4 <;> intro h2 <;> first | (rw [h4]; rfl) | cases h2
theorem EV {S:St} {x y:Option Tmp} {v u:AV} {m n:Option St} (h:∀ d,x=some d→y≠some d) (hm:m=none∨n=none):i5 (i5 S x v m) y u n=i5 (i5 S y u n) x v m:=by
  cases x with
  | none=>cases y <;> rcases hm with rfl | rfl <;> first | rfl | (cases m <;> rfl) | (cases n <;> rfl)
  | some d =>
    cases y with
    | none=>rcases hm with rfl | rfl <;> first | (cases m <;> rfl) | (cases n <;> rfl)
    | some e =>
      have hne:d≠e:=fun he=>h d rfl (he▸rfl)
      have hs:(S.t.set d v).set e u=(S.t.set e u).set d v:=List.set_comm _ _ hne
      rcases hm with rfl | rfl
      · cases n <;> simp only [i5,k9,fg,hs]
      · cases m <;> simp only [i5,k9,fg,hs]
theorem F6 {S:St} {dst:Option Tmp} {v:AV} {m:Option St}:(i5 S dst v m).l=match m with | none=>S.l | some M=>M.l:=by
  unfold i5
  rw [cp]
  cases m <;> rfl
theorem Bm {pl:bK} {ai:Array Oper} {x y:Oper} {S:St} {v:AV} {m:Option St} (hk:uV pl ai x S m) (hc:wO pl ai x y):uU pl ai y S (i5 S x.dst v m):=by
  cases m with
  | none=>exact .of wN
  | some M =>
    have h2:fC pl x=2:=by
      cases Nat.decEq (fC pl x) 2 with
      | isTrue h=>exact h
      | isFalse h=>have:=hk.1 h; cases this
    obtain ⟨h3,h4⟩:=hc h2
    refine ⟨fun h1=>?_,fun h=>absurd h h3⟩
    have hap:=h4 h1
    have hkm:=hk.2 M rfl
    have hoM:(i5 S x.dst v (some M)).o=M.o:=by unfold i5; rw [cq]; rfl
    revert hap hkm
    unfold jl
    generalize fD pl ai x=sx
    generalize fD pl ai y=sy
    intro hap hkm
    cases sx with
    | some a=>cases sy with
      | some b =>
        show aL _ b=_
        rw [F6]
        refine hkm.2 b (fun e=>?_)
        subst e
        have h':(!(Nat.beq b b))=true:=hap
        rw [show Nat.beq b b=true from Nat.beq_refl b] at h'
        cases h'
      | none =>
        show (i5 S x.dst v (some M)).o=S.o
        rw [hoM]
        exact hkm.1
    | none=>cases sy with
      | some b =>
        show aL _ b=_
        rw [F6]
        show aL M.l b=_
        rw [show M.l=S.l from hkm]
      | none=>cases hap
theorem uU.symm {pl:bK} {ai:Array Oper} {o:Oper} {S S2:St} (h:uU pl ai o S S2):uU pl ai o S2 S:=⟨fun h1=>(h.1 h1).symm,fun h2=>(h.2 h2).symm⟩
theorem uU.trans {pl:bK} {ai:Array Oper} {o:Oper} {S S2 S3:St} (h:uU pl ai o S S2) (k:uU pl ai o S2 S3):uU pl ai o S S3:=⟨fun h1=>(h.1 h1).trans (k.1 h1),fun h2=>(h.2 h2).trans (k.2 h2)⟩
theorem rY.of {site:Option Nat} {S S2 M:St} (h:kr S S2) (k:rY site S2 M):rY site S M:=by
  cases site with
  | some r =>
    obtain ⟨k1,k2⟩:=k
    refine ⟨k1.trans h.2.1,fun r' hr=>?_⟩
    rw [k2 r' hr,h.1]
  | none=>exact Eq.trans k h.1
theorem uV.after {pl:bK} {ai:Array Oper} {x y:Oper} {S:St} {v:AV} {m n:Option St} (hk:uV pl ai y (i5 S x.dst v m) n) (hx:uV pl ai x S m) (hc:wO pl ai x y):uV pl ai y S n:=by
  refine ⟨hk.1,fun M e=>?_⟩
  have h2:fC pl y=2:=by
    cases Nat.decEq (fC pl y) 2 with
    | isTrue h=>exact h
    | isFalse h=>have:=hk.1 h; rw [this] at e; cases e
  have hm:m=none:=hx.1 fun h=>(hc h).1 h2
  subst hm
  exact rY.of wN (hk.2 M e)
theorem uV.before {pl:bK} {ai:Array Oper} {x y:Oper} {S:St} {v:AV} {m n:Option St} (hx:uV pl ai x S m) (hy:uV pl ai y S n) (hc:wO pl ai x y):uV pl ai x (i5 S y.dst v n) m:=by
  refine ⟨hx.1,fun M e=>?_⟩
  have h2:fC pl x=2:=by
    cases Nat.decEq (fC pl x) 2 with
    | isTrue h=>exact h
    | isFalse h=>have:=hx.1 h; rw [this] at e; cases e
  have hn:n=none:=hy.1 fun h=>(hc h2).1 h
  subst hn
  exact rY.of wN.symm (hx.2 M e)
theorem IV {C:Ctx} (hC:gu C) {pl:bK} {ai:Array Oper} {oi oj:Oper} {v:AV} {m:Option St} (hap:vN pl ai oi oj=true) {K:St→Prop} {S:St}
    (hy:Eff C pl ai oi S v m) (h:ag C pl ai oj (i5 S oi.dst v m) K):ag C pl ai oj S fun S'=>Eff C pl ai oi S' v m∧K (i5 S' oi.dst v m):=by
  obtain ⟨hap,hc1,hc2,_,hez⟩:=Bl hap
  obtain ⟨h1,h2,h3⟩:=Oper.apart_spec hap
  obtain ⟨u,n,hj,hk⟩:=F4 hC hez h
  have hjk:uV pl ai oj S n:=hj.1.after hy.1 hc1
  refine hj.2 S (fun d hd=>(F5 (fun e=>h1 d e hd)).symm) (Bm hy.1 hc1).symm _ ⟨⟨hy.1.before hjk hc1,fun S2 ha hm K2 hk2=>hy.2 S2 (fun d hd=>(ha d hd).trans (F5 (fun e=>h3 d e hd))) ((Bm hjk hc2).trans hm) K2 hk2⟩,?_⟩
  rw [← EV h2 ?_]
  · exact hk
  · by_cases h12:fC pl oi=2
    · exact .inr (hj.1.1 (hc1 h12).1)
    · exact .inl (hy.1.1 h12)
theorem wP {f:Nat→Edge→Nat} {acc:List Nat} {i:Nat} (hf:∀ s e,Nat.testBit (f s e) i=true→Nat.testBit s i=true∨(Region.binds .any e=true∧(e.on=i∨Nat.testBit (acc.getD e.on 0) i=true))):∀ (l:List Edge) (s:Nat),Nat.testBit (l.foldl f s) i=true →
    Nat.testBit s i=true∨∃ e∈l,Region.binds .any e=true∧(e.on=i∨Nat.testBit (acc.getD e.on 0) i=true)
  | [],s,h=>.inl h
  | e::l,s,h=>by
    rw [List.foldl_cons] at h
    rcases wP hf l _ h with h | ⟨e',he,h1,h2⟩
    · rcases hf _ _ h with h | ⟨h1,h2⟩
      · exact .inl h
      · exact .inr ⟨e,List.mem_cons_self,h1,h2⟩
    · exact .inr ⟨e',List.mem_cons_of_mem _ he,h1,h2⟩
theorem mj (o:Oper) (os:List Oper) (acc:List Nat):∃ b,bZ (o::os) acc=bZ os (acc++[b])∧∀ i,Nat.testBit b i=true→∃ e∈o.after,Region.binds .any e=true∧(e.on=i∨Nat.testBit (acc.getD e.on 0) i=true):=by
  refine ⟨_,rfl,fun i h=>?_⟩
  have hz:Nat.testBit 0 i=true→False:=fun h=>by simp at h
  refine (wP (acc:=acc) (fun s e h=>?_) _ _ h).elim (fun h=>(hz h).elim) (fun ⟨e,he,h1,h2⟩=>⟨e,by simpa using he,h1,h2⟩)
  split at h
  · rename_i hb
    have h':Nat.testBit (s ||| (2 ^ e.on ||| acc.getD e.on 0)) i=true:=h
    rw [Nat.testBit_or,Nat.testBit_or,Nat.testBit_two_pow] at h'
    simp only [Bool.or_eq_true,decide_eq_true_eq] at h'
    rcases h' with h' | h' | h'
    · exact .inl h'
    · exact .inr ⟨hb,.inl h'⟩
    · exact .inr ⟨hb,.inr h'⟩
  · exact .inl h
theorem qm:∀ (os:List Oper) (acc:List Nat),∃ l,bZ os acc=acc++l
  | [],acc=>⟨[],by simp [bZ]⟩
  | o::os,acc=>by
    obtain ⟨b,h1,_⟩:=mj o os acc
    obtain ⟨l,h⟩:=qm os (acc++[b])
    exact ⟨b::l,by rw [h1,h,List.append_assoc]; rfl⟩
theorem qn:∀ (os:List Oper) (acc:List Nat) (j:Nat) (o:Oper) (i:Nat),os[j]?=some o→Nat.testBit ((bZ os acc).getD (acc.length + j) 0) i=true →
    ∃ e∈o.after,Region.binds .any e=true∧(e.on=i∨Nat.testBit ((bZ os acc).getD e.on 0) i=true)
  | [],_,_,_,_,h,_=>by simp at h
  | o0::os,acc,0,o,i,h,hb=>by
    simp only [List.getElem?_cons_zero,Option.some.injEq] at h
    subst h
    obtain ⟨b,h1,h2⟩:=mj o0 os acc
    obtain ⟨l,hl⟩:=qm os (acc++[b])
    rw [h1,hl,List.append_assoc] at hb ⊢
    have e1:(acc++([b]++l)).getD (acc.length + 0) 0=b:=by
      simp [List.getD_eq_getElem?_getD]
    rw [e1] at hb
    obtain ⟨e,he,h3,h4⟩:=h2 i hb
    refine ⟨e,he,h3,h4.imp id (fun h=>?_)⟩
    by_cases hlt:e.on<acc.length
    · rw [List.getD_eq_getElem?_getD,List.getElem?_append_left hlt,← List.getD_eq_getElem?_getD]
      exact h
    · rw [List.getD_eq_getElem?_getD,List.getElem?_eq_none (by omega)] at h
      simp at h
  | o0::os,acc,j + 1,o,i,h,hb=>by
    obtain ⟨b,h1,h2⟩:=mj o0 os acc
    rw [h1] at hb ⊢
    refine qn os _ j o i (by simpa using h) ?_
    have:(acc++[b]).length + j=acc.length + (j + 1):=by simp; omega
    rw [this]
    exact hb
theorem waits {ai:Array Oper} {j i:Nat} {o:Oper} (hj:ai[j]?=some o) (h:Nat.testBit ((bZ ai.toList []).getD j 0) i=true) :
    ∃ e∈o.after,Region.binds .any e=true∧(e.on=i∨Nat.testBit ((bZ ai.toList []).getD e.on 0) i=true) :=
  qn ai.toList [] j o i (by simpa using hj) (by simpa using h)
def Closed (ai:Array Oper) (listed:Array Bool):Prop:=∀ j,listed.getD j false=true→∀ i,Nat.testBit ((bZ ai.toList []).getD j 0) i=true→listed.getD i false=true
theorem F7 {listed:Array Bool} {i:Nat} (h:listed.getD i true=false):listed.getD i false=true→False:=by
  intro h2
  simp only [Array.getD_eq_getD_getElem?] at h h2
  cases hh:listed[i]? with
  | none=>rw [hh] at h; simp at h
  | some b=>rw [hh] at h h2; simp at h h2; rw [h] at h2; cases h2
theorem Closed.ready {ai:Array Oper} {listed:Array Bool} (hc:Closed ai listed) {j:Nat} (hj:j∈Region.ready .any ai listed) {i:Nat} (hb:Nat.testBit ((bZ ai.toList []).getD j 0) i=true):listed.getD i false=true:=by
  obtain ⟨_,o,ho,hall⟩:=mem_ready.1 hj
  obtain ⟨e,he,h1,h2⟩:=waits ho hb
  rcases h2 with h2 | h2
  · rw [← h2]; exact hall e he h1
  · exact hc _ (hall e he h1) _ h2
theorem wQ {listed:Array Bool} {i j:Nat} (h:listed.getD i false=true):(listed.setIfInBounds j true).getD i false=true:=by
  by_cases hij:j=i
  · subst hij
    simp only [Array.getD_eq_getD_getElem?] at *
    cases hh:listed[j]? with
    | none=>rw [hh] at h; simp at h
    | some b =>
      have:=(Array.getElem?_eq_some_iff.1 hh).1
      simp [this]
  · rw [getD_set_ne false hij]; exact h
theorem Closed.set {ai:Array Oper} {listed:Array Bool} (hc:Closed ai listed) {j:Nat} (hj:j∈Region.ready .any ai listed):Closed ai (listed.setIfInBounds j true):=by
  intro k hk i hb
  by_cases hjk:j=k
  · subst hjk
    exact wQ (hc.ready hj hb)
  · rw [getD_set_ne false hjk] at hk
    exact wQ (hc k hk i hb)
theorem o4 {ai:Array Oper} {listed:Array Bool} {i j:Nat} (hi:i∈Region.ready .any ai listed) (hne:j≠i):i∈Region.ready .any ai (listed.setIfInBounds j true):=by
  obtain ⟨h1,o,ho,h2⟩:=mem_ready.1 hi
  exact mem_ready.2 ⟨by rw [getD_set_ne true hne]; exact h1,o,ho,fun e he hb=>wQ (h2 e he hb)⟩
def F8 (C:Ctx) (pl:bK) (ai:Array Oper) (i:Nat) (K:St→Prop) (S:St):Prop :=
  match ai[i]? with
  | none=>K S
  | some o=>ag C pl ai o S K
def Bn (C:Ctx) (pl:bK) (ai:Array Oper) (Q:St→Prop):Nat→Array Bool→St→Prop
  | 0,listed,S=>Region.ready .any ai listed=[]∧Q S
  | fuel + 1,listed,S=>(Region.ready .any ai listed=[]→Q S)∧∀ i∈Region.ready .any ai listed,F8 C pl ai i (Bn C pl ai Q fuel (listed.setIfInBounds i true)) S
theorem Dx {C:Ctx} (hC:gu C) {pl:bK} {ai:Array Oper} {o:Oper} {S:St} {K K':St→Prop} (h:ag C pl ai o S K) (hk:∀ S,K S→K' S):ag C pl ai o S K':=by
  obtain ⟨S',h1,h2⟩:=FX hC _ h
  exact h2 K' (hk _ h1)
def Fr (pl:bK) (ai:Array Oper) (listed:Array Bool) (i:Nat) (oi:Oper):Prop:=∀ j oj,ai[j]?=some oj→j≠i→listed.getD j true=false→Nat.testBit ((bZ ai.toList []).getD j 0) i=false→vN pl ai oi oj=true
theorem CP {C:Ctx} (hC:gu C) {pl:bK} {ai:Array Oper} {Q:St→Prop} {i:Nat} {oi:Oper} {v:AV} {m:Option St} (hi:ai[i]?=some oi) :
    ∀ (fuel:Nat) (listed:Array Bool) (S:St),Closed ai listed→Fr pl ai listed i oi→i∈Region.ready .any ai listed→Eff C pl ai oi S v m →
      Bn C pl ai Q fuel (listed.setIfInBounds i true) (i5 S oi.dst v m)→Bn C pl ai Q (fuel + 1) listed S:=by
  have here:∀ {S:St} {K:St→Prop},Eff C pl ai oi S v m→K (i5 S oi.dst v m)→F8 C pl ai i K S:=by
    intro S K hy hk
    unfold F8
    rw [hi]
    exact hy.2 S (fun _ _=>rfl) (.of (kr.refl S)) K hk
  intro fuel
  induction fuel with
  | zero =>
    intro listed S _ _ hr hy H
    refine ⟨fun h=>(by rw [h] at hr; cases hr),fun j hj=>?_⟩
    by_cases hji:j=i
    · subst hji; exact here hy H
    · have:=o4 hj (fun e=>hji e.symm)
      rw [H.1] at this
      cases this
  | succ fuel ih =>
    intro listed S hcl hfree hr hy H
    refine ⟨fun h=>(by rw [h] at hr; cases hr),fun j hj=>?_⟩
    by_cases hji:j=i
    · subst hji; exact here hy H
    · have h1:=H.2 j (o4 hj (fun e=>hji e.symm))
      obtain ⟨hjun,oj,hoj,hall⟩:=mem_ready.1 hj
      have hnot:Nat.testBit ((bZ ai.toList []).getD j 0) i=false:=by
        cases hb:Nat.testBit ((bZ ai.toList []).getD j 0) i with
        | false=>rfl
        | true=>exact (F7 (mem_ready.1 hr).1 (hcl.ready hj hb)).elim
      unfold F8 at h1 ⊢
      rw [hoj] at h1 ⊢
      have h2:=IV hC (hfree j oj hoj hji hjun hnot) hy h1
      have hfree':Fr pl ai (listed.setIfInBounds j true) i oi:=fun k ok hk hki hun hno=>by
        refine hfree k ok hk hki ?_ hno
        by_cases hjk:j=k
        · subst hjk; exact hjun
        · rw [getD_set_ne true hjk] at hun; exact hun
      refine Dx hC h2 (fun S' h3=>ih (listed.setIfInBounds j true) S' (hcl.set hj) hfree' (o4 hr (fun e=>hji e)) h3.1 ?_)
      rw [Array.setIfInBounds_comm _ _ hji]
      exact h3.2
theorem CQ {pl:bK} {ai:Array Oper} {listed:Array Bool} {i:Nat} {oi:Oper} (hi:ai[i]?=some oi) (h:Do pl ai (bZ ai.toList []) listed i=true):Fr pl ai listed i oi:=by
  intro j oj hj hji hun hno
  unfold Do at h
  rw [hi] at h
  have hlt:j<ai.size:=(Array.getElem?_eq_some_iff.1 hj).1
  have:=List.all_eq_true.1 h j (List.mem_range.2 hlt)
  rw [hj] at this
  simp only [hun,hno,Bool.or_eq_true,Bool.or_false] at this
  rcases this with h | h
  · exact absurd (Nat.eq_of_beq_eq_true h) hji
  · simpa using h
theorem IW {x y:Value} (h:KP x y=true):x=y:=by
  unfold KP at h
  split at h
  · simp at h; rw [h]
  · simp at h; rw [h.1,h.2]
  · rename_i a b
    have h':=eq_of_beq h
    congr 1
    have:a.data=b.data:=Array.ext' h'
    cases a; cases b; simp_all
  · cases h
theorem IX {x y:Key} (h:KQ x y=true):x=y:=by
  unfold KQ at h
  split at h
  · rw [Nat.eq_of_beq_eq_true h]
  · rw [Nat.eq_of_beq_eq_true h]
  · cases h
theorem ia {α:Type} {f:α→α→Bool} (hf:∀ x y,f x y=true→x=y):∀ {xs ys:List α},AF f xs ys=true→xs=ys
  | [],[],_=>rfl
  | x::xs,y::ys,h=>by
    unfold AF at h
    simp only [Bool.and_eq_true] at h
    rw [hf x y h.1,ia hf h.2]
  | [],_::_,h=>by cases h
  | _::_,[],h=>by cases h
theorem tn:∀ (n:Nat) (x y:AV),Ez n x y=true→x=y
  | 0,_,_,h=>by cases h
  | n + 1,x,y,h=>by
    have ih:=tn n
    have nb:∀ {a b:Nat},Nat.beq a b=true→a=b:=fun h=>Nat.eq_of_beq_eq_true h
    unfold Ez at h
    split at h <;> first | rfl | (cases h; done) | skip
    · rw [IW h]
    · simp only [Bool.and_eq_true] at h; rw [IX h.1.1,nb h.1.2,nb h.2]
    · simp only [Bool.and_eq_true] at h; rw [ia ih h.1,nb h.2]
    · rw [ia (fun _ _ h=>ia ih h) h]
    · rw [nb h]
    · rw [nb h]
    · simp only [Bool.and_eq_true] at h; rw [nb h.1.1.1,nb h.1.1.2,nb h.1.2,nb h.2]
    · rw [nb h]
    · simp only [Bool.and_eq_true] at h; rw [nb h.1.1,ia ih h.1.2,ia ih h.2]
    · rw [ia ih h]
    · rw [ia ih h]
theorem Hz (x y:Ob) (h:IL x y=true):x=y:=by
  unfold IL at h
  split at h
  · simp only [Bool.and_eq_true,beq_iff_eq] at h
    rw [h.1.1,Nat.eq_of_beq_eq_true h.1.2,ia (fun _ _ h=>ia (tn 8) h) h.2]
  · simp only [Bool.and_eq_true,beq_iff_eq] at h
    rw [h.1,ia (fun (x y:AV×AV) h=>by
      simp only [Bool.and_eq_true] at h
      exact Prod.ext (tn 8 _ _ h.1) (tn 8 _ _ h.2)) h.2]
  · rfl
  · cases h
theorem HA {S S':St} (h:IM S S'=true):S=S':=by
  unfold IM at h
  simp only [Bool.and_eq_true] at h
  obtain ⟨t,l,o,b⟩:=S
  obtain ⟨t',l',o',b'⟩:=S'
  simp only at h
  rw [ia (tn 8) h.1.1.1,ia (fun (x y:Nat×List AV) h=>by
    simp only [Bool.and_eq_true] at h
    exact Prod.ext (Nat.eq_of_beq_eq_true h.1) (ia (tn 8) h.2)) h.1.1.2,ia Hz h.1.2,Nat.eq_of_beq_eq_true h.2]
theorem EW {S2 S1:St} {X:Prop} (h:ua S2 S1 X):S2=S1∧X:=by
  unfold ua at h
  split at h
  · rename_i he; exact ⟨HA he,h⟩
  · exact h
theorem Bo {go:Nat→(St→Prop)→Prop} (hg:∀ i,aw (go i)):∀ {is:List Nat} {S1:St} {X:Prop},Ci go is S1 X→X∧∀ i∈is,go i fun S2=>S2=S1
  | [],_,_,h=>⟨h,fun i hi=>by cases hi⟩
  | i::is,S1,X,h=>by
    obtain ⟨S2,h1,h2⟩:=hg i _ h
    obtain ⟨h3,h4⟩:=EW h1
    obtain ⟨h5,h6⟩:=Bo hg h4
    refine ⟨h5,fun k hk=>?_⟩
    rcases List.mem_cons.1 hk with rfl | hk
    · exact h2 _ h3
    · exact h6 k hk
theorem qo {pl:bK} {ai:Array Oper} {ws:List Nat} {listed:Array Bool}:∀ {is:List Nat} {k:Nat},oF pl ai ws listed is=some k→k∈is∧Do pl ai ws listed k=true∧∃ o,ai[k]?=some o∧Cg (fC pl o)=true
  | [],_,h=>by cases h
  | i::is,k,h=>by
    unfold oF at h
    split at h
    · rename_i hb
      cases h
      simp only [Bool.and_eq_true] at hb
      refine ⟨List.mem_cons_self,hb.2,?_⟩
      have h1:=hb.1
      split at h1
      · rename_i o ho; exact ⟨o,ho,h1⟩
      · cases h1
    · obtain ⟨h1,h2⟩:=qo h
      exact ⟨List.mem_cons_of_mem _ h1,h2⟩
theorem wR {C:Ctx} {pl:bK} {ai:Array Oper} {i:Nat} {S:St} {K:St→Prop} (h:yv C pl ai i S K):F8 C pl ai i K S:=by
  unfold yv at h
  unfold F8
  split at h
  · exact False.elim h
  · rename_i o ho
    rw [ho]
    exact h
theorem F9 {C:Ctx} (hC:gu C) {pl:bK} {ai:Array Oper} {i:Nat} {S:St} {K K':St→Prop} (h:F8 C pl ai i K S) (hk:∀ S,K S→K' S):F8 C pl ai i K' S:=by
  unfold F8 at h ⊢
  split
  · rename_i ho; rw [ho] at h; exact hk _ h
  · rename_i o ho; rw [ho] at h; exact Dx hC h hk
theorem rZ {C:Ctx} (hC:gu C) {pl:bK} {ai:Array Oper} {Q:St→Prop}:∀ (n:Nat) (listed:Array Bool) (S:St),Closed ai listed→jT C pl ai (bZ ai.toList []) n listed S Q→Bn C pl ai Q n listed S
  | 0,listed,S,_,h=>by
    unfold jT at h
    split at h
    · rename_i he; exact ⟨he,h⟩
    · exact False.elim h
  | n + 1,listed,S,hcl,h=>by
    unfold jT at h
    split at h
    · rename_i he
      exact ⟨fun _=>h,fun i hi=>by rw [he] at hi; cases hi⟩
    · rename_i r rs he
      split at h
      · rename_i k hk
        obtain ⟨hm,hf,o,ho,hez⟩:=qo hk
        rw [← he] at hm
        have h1:=wR h
        unfold F8 at h1
        rw [ho] at h1
        obtain ⟨v,m,hy,hK⟩:=F4 hC hez h1
        exact CP hC ho n listed S hcl (CQ ho hf) hm hy (rZ hC n _ _ (hcl.set hm) hK)
      · have hdet:∀ i,aw (fun K':St→Prop=>yv C pl ai i S fun S'=>jT C pl ai (bZ ai.toList []) n (listed.setIfInBounds i true) S' K'):=fun i=>aw.bind (fJ hC) (fun S'=>fk hC n _ S')
        obtain ⟨S1,h1,h2⟩:=hdet r _ h
        obtain ⟨h3,h4⟩:=Bo hdet h1
        refine ⟨fun h0=>(by rw [he] at h0; cases h0),fun i hi=>?_⟩
        have hi':=hi
        rw [he] at hi'
        have hgo:yv C pl ai i S fun S'=>jT C pl ai (bZ ai.toList []) n (listed.setIfInBounds i true) S' Q:=by
          rcases List.mem_cons.1 hi' with rfl | hi'
          · exact h2 Q h3
          · obtain ⟨S2,h5,h6⟩:=hdet i _ (h4 i hi')
            exact h6 Q (by rw [h5]; exact h3)
        exact F9 hC (wR hgo) (fun S' h=>rZ hC n _ S' (hcl.set hi) h)
open Go.RowKit (Below)
def ZR (P:Program) (e:TypeId) (cs:List AV):Prop:=∃ i z,P.info? e=some i∧i.zero=some z∧∀ E,cb E cs z.cells.toList
theorem CR (k:Key) (c:Value):cX 4 k (vz c)=vz c:=by
  unfold vz
  split <;> rfl
theorem wS {P:Program} {e:TypeId} {k:List AV→Prop} (h:cE P e k):∃ cs,ZR P e cs∧k cs∧∀ k:Key,cs.map (cX 4 k)=cs:=by
  unfold cE at h
  split at h
  · rename_i i hi
    split at h
    · rename_i z hz
      obtain ⟨h1,h2⟩:=ac h
      rw [ik] at h2
      obtain ⟨i',z',cs,hi',hz',_,he,hcs⟩:=cO (P:=P) (e:=e) (k:=fun cs=>cs=z.cells.toList.map vz) (by
        unfold cE
        rw [hi]
        dsimp only
        rw [hz]
        dsimp only
        refine al h1 ?_
        rw [ik])
      subst he
      refine ⟨_,⟨i',z',hi',hz',hcs⟩,h2,fun k=>?_⟩
      rw [List.map_map]
      exact List.map_congr_left fun c _=>CR k c
    · exact False.elim h
  · exact False.elim h
theorem ah.drawn {G:Gh} {p:Nat→Option (List AV)} {E:Env} {S:St} {w:World} {n:Nat} (h:ah G p E S w):ah G p E S { w with drawn:=n } :=
  ⟨h.hp,h.os,h.tape,h.output,h.size,h.keep,h.F0,h.Flt,h.Fnew,h.own,h.inj,h.loc,h.obj,h.old,h.bl,h.szs,h.pk,h.ow⟩
theorem gO.congr {p p':Nat→Option (List AV)} {E:Env} {x:Option (List AV)} {d:Nat} (h:gO p E x d) (hp:p' d=p d):gO p' E x d:=by
  unfold gO at *
  cases x with
  | none=>exact h
  | some row =>
    rcases h with h | ⟨h1,h2,h3⟩
    · exact .inl h
    · exact .inr ⟨h1,hp.trans h2,h3⟩
def lm (o:Oper) (p:Nat→Option (List AV)):Nat→Option (List AV) :=
  match o.op,o.dst with
  | .alloc _,some d=>fun x=>if x=d then none else p x
  | _,_=>p
theorem lq {o:Oper} {p:Nat→Option (List AV)} (h:∀ e,o.op≠.alloc e):lm o p=p:=by
  unfold lm
  split
  · rename_i e d ho _
    exact (h _ ho).elim
  · rfl
theorem ny {o:Oper} {p:Nat→Option (List AV)} {e:TypeId} {d:Nat} (h:o.op=.alloc e) (hd:o.dst=some d):lm o p=fun x=>if x=d then none else p x:=by
  unfold lm
  rw [h,hd]
section
variable {G:Gh} {p:Nat→Option (List AV)} {E:Env} {S:St} {w:World} {C:Ctx} {pl:bK} {o:Oper} {a:Act} {K:St→Prop}
theorem z5 {d:Nat} {e:TypeId} {cs:List AV} (hM:ah G p E S w) (ht:TR E S.t a) (ho:o.op=.alloc e) (hd:o.dst=some d) (hp:p d=some cs) (hz:ZR C.P e cs) (hpos:0<cs.length)
    (h:K (k9 S (some d) (.ptr (.L d) 0 0))) (next:Act→World→Prop) (Q:Exit→Act→World→Prop)
    (hn:∀ S' E' a' w',K S'→ah G (lm o p) E' S' w'→TR E' S'.t a'→next a' w'):o.wp C.P a w next Q:=by
  obtain ⟨i,z,hi,hz,hcs⟩:=hz
  obtain ⟨hmu,hrow⟩:=hM.pk d cs hp
  have hrun:(execOp a.eval o).run C.P w=.ok (.value (.pointer (some ⟨w.heap.size,0,none⟩))) { w with heap:=w.heap.push (.cells z.cells e) }:=by
    simp [execOp,ho,Instr.alloc,cQ hi hz,qN]
  refine cT hrun ?_
  have arr:∀ {E1:Env},cb E1 cs z.cells.toList→cz E1 (w.heap.push (.cells z.cells e)) [cs] w.heap.size 0 cs.length:=by
    intro E1 hcs1
    refine cz.of_rows hpos (fun r hr=>by simp at hr; subst hr; rfl) (du w _) (by have:=hcs1.1; simp at this; simp; omega) (fun i row r c h1 h2=>?_)
    cases i with
    | zero =>
      simp at h1
      subst h1
      obtain ⟨u,hu,hv⟩:=hcs1.get h2
      exact ⟨u,by simpa using hu,hv⟩
    | succ i=>simp at h1
  rw [ny ho hd] at hn
  obtain ⟨hle,hS⟩:=hM.newkey' (p':=fun x=>if x=d then none else p x) (ob:=.cells z.cells e) (key:=.L d) (sz:=cs.length) (n:=1) (fun x hx=>if_neg fun h=>hx (by rw [h])) (fun x hx=>by cases hx; exact if_pos rfl) hmu
    (M':=S) (fun _ _=>rfl) (fun _ _=>rfl) rfl hM.bl (fun id he=>by cases he)
    (fun e he hle=>by
      cases he
      rw [hrow]
      refine .inl ⟨w.heap.size,?_,arr (hcs _)⟩
      show aF E.mu (.L d) _ (.L d)=_
      unfold aF
      rw [if_pos rfl])
    (fun id he=>by cases he) Cp
  refine hn _ _ _ _ h (hS.congr cp cq cC) ?_
  have:=(ht.mono hle).put (S:=S) (dst:=o.dst) (c:=.ptr (.L d) 0 0) (u:=.pointer (some ⟨w.heap.size,0,none⟩)) (by
    have hmu':aF E.mu (.L d) (.blk w.heap.size 0 cs.length 1) (.L d)=some (.blk w.heap.size 0 cs.length 1):=by unfold aF; rw [if_pos rfl]
    have:=VR.ptr (E:=⟨E.F,aF E.mu (.L d) (.blk w.heap.size 0 cs.length 1),w.heap.push (.cells z.cells e)⟩) 0 0 rfl hmu'
    simpa using this)
  rw [hd] at this ⊢
  exact this
theorem EX {e:TypeId} (ho:o.op=.alloc e):fC pl o=4:=by
  have hw:fX pl o=false:=by unfold fX; rw [ho]
  unfold fC
  rw [hw]
  dsimp only
  unfold yu
  rw [ho]
theorem Bp {C:Ctx} (hC:d5 C) {pl:bK} {o:Oper} {S:St} {K:St→Prop} {G:Gh} {pd:Nat→Option (List AV)} {E:Env} {w:World} {a:Act} {c:Call} (hM:ah G pd E S w) (ht:TR E S.t a) (ho:o.op=.call c) (h:qc C pl o S K):c7 C.P G pd o a w K:=by
  unfold qc at h
  obtain ⟨vs,h,hv⟩:=da ht h
  have hw:fX pl o=false:=by unfold fX; rw [ho]
  unfold m_ at h
  rw [hw] at h
  dsimp only at h
  unfold lS at h
  rw [ho] at h hv
  split at h
  · rename_i he; cases he
  · rename_i c' fid first cap as he
    cases he
    split at h
    · rename_i x hcal
      obtain ⟨h1,h⟩:=ac h
      simp only [Bool.and_eq_true] at h1
      have hv:cb E (.fn fid first cap::as) (a.eval x::c.args.toList.map a.eval):=by simpa [Op.operands,Call.operands,hcal] using hv
      obtain ⟨u,us,e,hf,has⟩:=hv.uncons
      cases e
      obtain ⟨g1,g2⟩:=hC.scall _ _ _ _ h
      refine uu hM ht ho hcal hf has h1.2 ⟨g1,fun E w us hM hg hv=>(g2 E w us hM hg hv).mono ?_⟩
      rintro e w' ⟨v,r,o',E',hk,rest⟩
      obtain ⟨h4,h5⟩:=ac hk
      refine ⟨v,r,o',E',?_,rest⟩
      have h4:bY S.o o' 0=[]:=List.isEmpty_iff.1 h4
      show j_ (bY S.o o' 0) S.t S.l _
      rw [h4]
      exact h5
    · exact h.elim
  · rename_i hne
    unfold yr at h
    rw [ho] at h
    exact h.elim
theorem Bq {C:Ctx} (hC:d5 C) {pl:bK} {o:Oper} {S:St} {K:St→Prop} {G:Gh} {pd:Nat→Option (List AV)} {E:Env} {w:World} {a:Act} (hM:ah G pd E S w) (ht:TR E S.t a) (h:qc C pl o S K):c7 C.P G pd o a w K:=by
  cases hw:fX pl o with
  | true =>
    refine wh (pl:=pl) hM ht ?_
    unfold qc at h
    unfold sX
    have e:∀ vs M k,m_ C pl o vs M k=lJ C.P pl o vs M k:=fun vs M k=>by unfold m_; rw [hw]
    simp only [e] at h
    exact h
  | false =>
  have e:∀ vs M k,m_ C pl o vs M k=lS C o vs M k:=fun vs M k=>by unfold m_; rw [hw]
  by_cases hmk:yW pl o
  · rcases hmk with (⟨t,X,Y,ho⟩ | ⟨c,ho⟩) | hmk
    rotate_left
    · exact Bp hC hM ht ho h
    · rw [hw] at hmk; cases hmk
    refine nQ (bx:=false) hM ht ho ?_
    unfold qc at h
    simp only [e] at h
    rw [ho] at h
    have h':cR S X fun l=>cR S Y fun c=>bQ C.P t l c (cY S) fun M' r=>bB o.dst r (fg S M') K:=by
      have h:cR S X fun l=>cR S Y fun c=>lS C o [l,c] (cY S) fun r M=>bB o.dst r (fg S M) K:=h
      obtain ⟨l,h1,h2⟩:=ck _ h
      obtain ⟨c,h3,h4⟩:=ck _ h1
      refine h2 (fun l=>cR S Y fun c=>bQ C.P t l c (cY S) fun M' r=>bB o.dst r (fg S M') K) (h4 (fun c=>bQ C.P t l c (cY S) fun M' r=>bB o.dst r (fg S M') K) ?_)
      unfold lS at h3
      rw [ho] at h3
      exact h3
    obtain ⟨l,h1,h2⟩:=ck _ h'
    obtain ⟨c,h3,h4⟩:=ck _ h1
    refine h2 (fun l=>cR S Y fun c=>bQ C.P t l c S fun S' r=>bB o.dst r S' K) (h4 (fun c=>bQ C.P t l c S fun S' r=>bB o.dst r S' K) ?_)
    unfold bQ at h3 ⊢
    exact h3
  · refine wl hM ht ?_
    unfold qc at h
    unfold Ew
    obtain ⟨vs,h1,h2⟩:=bc _ h
    refine h2 (fun vs=>yr C o vs (cY S) fun r M=>bB o.dst r (fg S M) K) ?_
    rw [q6 hmk] at h1
    exact h1
theorem EY (hC:d5 C) (hM:ah G p E S w) (ht:TR E S.t a) (hA:∀ e d,o.op=.alloc e→o.dst=some d→∃ cs,p d=some cs∧0<cs.length∧ZR C.P e cs) (h:xE C pl o S K) (next:Act→World→Prop) (Q:Exit→Act→World→Prop)
    (hn:∀ S' E' a' w',K S'→ah G (lm o p) E' S' w'→TR E' S'.t a'→next a' w'):o.wp C.P a w next Q:=by
  by_cases hal:∃ e,o.op=.alloc e
  · obtain ⟨e,ho⟩:=hal
    unfold xE at h
    rw [EX ho] at h
    have h':match o.dst with
      | some d=>bB o.dst (.ptr (.L d) 0 0) S K
      | none=>af 217:=h
    split at h'
    · rename_i d hd
      obtain ⟨cs,h3,h4,h5⟩:=hA e d ho hd
      rw [aB,hd] at h'
      exact z5 hM ht ho hd h3 h5 h4 h' next Q hn
    · exact False.elim h'
  · rw [lq (fun e he=>hal ⟨e,he⟩)] at hn
    unfold xE at h
    split at h
    · exact wi hM ht h next Q hn
    · exact wj hC hM ht h next Q hn
    · exact Bq hC hM ht h next Q hn
    · rename_i hc
      exfalso
      unfold fC at hc
      rw [yY (by unfold fC; rw [hc]; decide)] at hc
      dsimp only at hc
      unfold yu at hc
      split at hc
      · split at hc <;> cases hc
      · rename_i e ho; exact hal ⟨e,ho⟩
      · split at hc <;> cases hc
      · split at hc
        · split at hc
          · cases hc
          · split at hc <;> cases hc
        · cases hc
        · split at hc <;> cases hc
        · unfold FH at hc
          split at hc <;> try (cases hc; done)
          all_goals (split at hc <;> cases hc)
      · unfold FH at hc
        split at hc <;> try (cases hc; done)
        all_goals (split at hc <;> cases hc)
    · exact Cu hM ht h next Q hn
    · split at h
      · exact False.elim h
      · rename_i hb
        exact yN hC (fun he=>by rw [hb] at he; cases he) hM ht h next Q hn
end
def Inv (P:Program) (p:Nat→Option (List AV)) (ai:Array Oper) (listed:Array Bool):Prop :=
  ∀ (i:Nat) (o:Oper) (e:TypeId) (d:Nat),ai[i]?=some o→o.op=.alloc e→o.dst=some d→listed.getD i true=false→∃ cs,p d=some cs∧0<cs.length∧ZR P e cs
def z6 (ai:Array Oper):Prop:=∀ (i i':Nat) (o o':Oper) (e e':TypeId) (d:Nat),ai[i]?=some o→ai[i']?=some o'→o.op=.alloc e→o'.op=.alloc e'→o.dst=some d→o'.dst=some d→i=i'
theorem CU {listed:Array Bool} {i:Nat}:(listed.setIfInBounds i true).getD i true=true:=by
  simp only [Array.getD_eq_getD_getElem?,Array.getElem?_setIfInBounds,if_pos]
  split <;> rfl
theorem Inv.step {P:Program} {p:Nat→Option (List AV)} {ai:Array Oper} {listed:Array Bool} {i:Nat} {o:Oper} (h:Inv P p ai listed) (hap:z6 ai) (hi:ai[i]?=some o) :
    Inv P (lm o p) ai (listed.setIfInBounds i true):=by
  intro j oj e d hj hoj hdj hjun
  have hij:i≠j:=fun he=>by subst he; rw [CU] at hjun; cases hjun
  rw [getD_set_ne true hij] at hjun
  obtain ⟨cs,h1,h2⟩:=h j oj e d hj hoj hdj hjun
  refine ⟨cs,?_,h2⟩
  by_cases hal:∃ e,o.op=.alloc e
  · obtain ⟨e',ho⟩:=hal
    cases hd:o.dst with
    | none =>
      unfold lm
      rw [ho,hd]
      exact h1
    | some d' =>
      rw [ny ho hd]
      show (if d=d' then none else p d)=_
      rw [if_neg (fun he=>by subst he; exact hij (hap i j o oj e' e d hi hj ho hoj hd hdj))]
      exact h1
  · rw [lq (fun e he=>hal ⟨e,he⟩)]
    exact h1
theorem CV {o:Oper} {p:Nat→Option (List AV)} {d:Nat} (h:lm o p d≠none):p d≠none:=by
  by_cases hal:∃ e,o.op=.alloc e
  · obtain ⟨e',ho⟩:=hal
    cases hd:o.dst with
    | none =>
      unfold lm at h
      rw [ho,hd] at h
      exact h
    | some d' =>
      rw [ny ho hd] at h
      intro hn
      apply h
      show (if d=d' then none else p d)=none
      split
      · rfl
      · exact hn
  · rw [lq (fun e he=>hal ⟨e,he⟩)] at h
    exact h
def Q0 (Q:Exit→Act→World→Prop) (e:Exit) (a:Act) (w:World):Prop:=e=.normal∧Q .normal a w
theorem JR {P:Program} {o:Oper} {a:Act} {w:World} {next:Act→World→Prop} {Q:Exit→Act→World→Prop} (h:o.wp P a w next (Q0 Q)):o.wp P a w next Q:=by
  unfold Oper.wp at *
  revert h
  generalize (execOp a.eval o).run P w=x
  intro h
  cases x with
  | ok x w' =>
    cases x with
    | enter f args=>exact Calls.mono h (fun e w'' he=>by
        cases e with
        | returned v=>exact he
        | panicked c=>exact absurd he.1 (fun h=>by cases h)
        | outgrown=>obtain ⟨_,_,h,_⟩:=he; cases h)
    | _=>exact h
  | halt x w' =>
    cases x with
    | panic v=>exact absurd h.1 (fun h=>by cases h)
    | _=>exact h
theorem F_ {ai:Array Oper} (h:Ic ai=true):Region.noSelect ai=true∧∀ (i:Nat) (o:Oper),ai[i]?=some o→∀ c,o.op≠.defer c:=by
  unfold Ic at h
  rw [Bool.and_eq_true] at h
  refine ⟨h.1,fun i o ho c hc=>?_⟩
  have:=List.all_eq_true.1 h.2 o (by rw [Array.mem_toList_iff]; exact Array.mem_of_getElem? ho)
  rw [hc] at this
  cases this
theorem r4 {P:Program} {rr:Option Nat} {ai:Array Oper} {Q:Exit→Act→World→Prop} (hnd:∀ (i:Nat) (o:Oper),ai[i]?=some o→∀ c,o.op≠.defer c) :
    ∀ (fuel:Nat) (listed:Array Bool) (a:Act) (w:World),wpAny P .any ai (Q0 Q) fuel listed a w→wpAnyIn (rd rr) 0 P .any ai Q fuel listed a w
  | 0,_,_,_,h=>⟨h.1,h.2.2⟩
  | fuel + 1,listed,a,w,h=>by
    refine ⟨fun h0=>(h.1 h0).2,fun i hi=>?_⟩
    have h1:=h.2 i hi
    unfold wpOpIn
    unfold wpOp at h1
    split at h1
    · rename_i ho
      rw [ho]
      exact r4 hnd fuel _ _ _ h1
    · rename_i o ho
      rw [ho]
      dsimp only
      split at h1
      · rename_i hw
        rw [if_pos hw]
        rcases h1 with h1 | ⟨_,_,_,h1,_⟩
        · exact yO (hnd i o ho) (JR (Oper.wp_mono (fun a w h=>r4 hnd fuel _ _ _ h) h1))
        · cases h1
      · rename_i hw
        rw [if_neg hw]
        exact ⟨fun _ _=>trivial,r4 hnd fuel _ _ _ h1⟩
theorem nz {C:Ctx} (hC:d5 C) {pl:bK} {ai:Array Oper} {G:Gh} {A:Nat→Prop} {Q:St→Prop} {Qc:Exit→Act→World→Prop} (hap:z6 ai) (hg:∀ (i:Nat) (o:Oper) (e:TypeId),ai[i]?=some o→o.op=.alloc e→o.guard=none)
    (hQ:∀ p S' E' a' w',(∀ d,p d≠none→A d)→Q S'→ah G p E' S' w'→TR E' S'.t a'→Qc .normal a' w') :
    ∀ (fuel:Nat) (listed:Array Bool) (p:Nat→Option (List AV)) (S:St) (E:Env) (a:Act) (w:World),(∀ d,p d≠none→A d)→ah G p E S w→TR E S.t a→Inv C.P p ai listed→Bn C pl ai Q fuel listed S→wpAny C.P .any ai Qc fuel listed a w
  | 0,_,_,_,_,_,_,hA,hM,ht,_,h=>⟨h.1,hQ _ _ _ _ _ hA h.2 hM ht⟩
  | fuel + 1,listed,p,S,E,a,w,hA,hM,ht,hI,h=>by
    refine ⟨fun h0=>hQ _ _ _ _ _ hA (h.1 h0) hM ht,fun i hi=>?_⟩
    have h1:=h.2 i hi
    obtain ⟨hun,o,ho,_⟩:=mem_ready.1 hi
    unfold F8 at h1
    unfold wpOp
    rw [ho] at h1 ⊢
    dsimp only at h1 ⊢
    have goon:∀ S' E' a' w',Bn C pl ai Q fuel (listed.setIfInBounds i true) S'→ah G (lm o p) E' S' w'→TR E' S'.t a'→wpAny C.P .any ai Qc fuel (listed.setIfInBounds i true) a' w' :=
      fun S' E' a' w' hk hS htr=>nz hC hap hg hQ fuel _ _ S' E' a' w' (fun d hd=>hA d (CV hd)) hS htr (hI.step hap ho) hk
    have step:∀ {S1:St},ah G p E S1 w→TR E S1.t a→qG C pl ai o S1 (Bn C pl ai Q fuel (listed.setIfInBounds i true))→Region.wanted o (yielded ai a.tmps)=true→(if Region.wanted o (yielded ai a.tmps) then o.wp C.P a w (wpAny C.P .any ai Qc fuel (listed.setIfInBounds i true)) Qc∨(o.asks C.P a w∧LetsOut Qc) else wpAny C.P .any ai Qc fuel (listed.setIfInBounds i true) (a.put o.dst undef) w):=by
      intro S1 hM1 ht1 h hw
      obtain ⟨_,h⟩:=ac h
      rw [if_pos hw]
      exact .inl (EY hC hM1 ht1 (fun e d h1 h2=>hI i o e d ho h1 h2 hun) h _ _ goon)
    unfold ag at h1
    split at h1
    · rename_i hgd
      exact step hM ht h1 (by unfold Region.wanted; rw [hgd])
    · rename_i j want hgd
      split at h1
      · exact False.elim h1
      · rename_i d hd
        obtain ⟨b,S1,h1,hb,hM1,ht1⟩:=kD hM ht h1
        rcases lV hgd (nm hd hb) h1 with ⟨hw,h1⟩ | ⟨hw,h1⟩
        · exact step hM1 ht1 h1 hw
        · rw [aB] at h1
          rw [if_neg (by rw [hw]; exact fun h=>by cases h)]
          have hnal:∀ e,o.op≠.alloc e:=fun e he=>by
            have:=hg i o e ho he
            rw [hgd] at this
            cases this
          refine goon _ E _ w h1 ?_ (ht1.put (rS _))
          rw [lq hnal]
          exact hM1.congr cp cq cC
theorem CW {pl:bK} {o:Oper} (h:sZ o=true):fC pl o=0∧o.guard=none∧(∀ t len parts,o.op≠.buildSlice t len parts)∧∀ e,o.op≠.alloc e:=by
  unfold sZ at h
  split at h
  · cases h
  · rename_i hg
    split at h
    all_goals first
      | (rename_i ho; refine ⟨?_,hg,fun _ _ _ he=>(by rw [ho] at he; cases he),fun _ he=>(by rw [ho] at he; cases he)⟩; unfold fC fX; rw [ho]; dsimp only; unfold yu; rw [ho]; dsimp only; unfold FH; rw [ho])
      | cases h
theorem CX {C:Ctx} {pl:bK} {o:Oper} {vs:List AV} {k:AV→Prop} {E:Env} {a:Act} (hp:sZ o=true) (h:pop C pl o vs k) (hv:cb E vs (o.op.operands.toList.map a.eval)):∃ r z,k r∧VR E r z∧∀ w,(execOp a.eval o).run C.P w=.ok (.value z) w:=by
  unfold sZ at hp
  split at hp
  · cases hp
  · split at hp
    · rename_i x ho
      rw [ho] at hv
      unfold pop at h
      rw [ho] at h
      split at h <;> rename_i he <;> first | (cases he; done) | skip
      all_goals first
        | (cases he
           obtain ⟨u,us,e,hc,hn⟩:=hv.uncons
           simp [Op.operands] at e
           exact ⟨_,_,h,hc,fun w=>by simp [execOp,ho,e.1]⟩)
        | exact h.elim
    · rename_i x ho
      rw [ho] at hv
      unfold pop at h
      rw [ho] at h
      split at h <;> rename_i he <;> first | (cases he; done) | skip
      all_goals first
        | (cases he
           obtain ⟨u,us,e,hc,hn⟩:=hv.uncons
           simp [Op.operands] at e
           exact ⟨_,_,h,hc,fun w=>by simp [execOp,ho,e.1]⟩)
        | exact h.elim
    · rename_i x ho
      rw [ho] at hv
      unfold pop at h
      rw [ho] at h
      split at h <;> rename_i he <;> first | (cases he; done) | skip
      all_goals first
        | (cases he
           obtain ⟨u,us,e,hc,hn⟩:=hv.uncons
           simp [Op.operands] at e
           have hc0:=hc
           cases hc with
           | ptr _ _ hs0 hm=>exact ⟨_,_,h,hc0,fun w=>by simp [execOp,ho,e.1]⟩)
        | (cases he
           obtain ⟨u,us,e,hc,hn⟩:=hv.uncons
           simp [Op.operands] at e
           have hc0:=hc
           cases hc with
           | fptr _ us h1 h2 h3 h4=>exact ⟨_,_,h,hc0,fun w=>by simp [execOp,ho,e.1]⟩)
        | (cases he
           obtain ⟨u,us,e,hc,hn⟩:=hv.uncons
           simp [Op.operands] at e
           have hc0:=hc
           cases hc with
           | fn us ws h1 h2 h3 h4=>exact ⟨_,_,h,hc0,fun w=>by simp [execOp,ho,e.1]⟩)
        | exact h.elim
    · rename_i t x f ho
      rw [ho] at hv
      unfold pop at h
      rw [ho] at h
      split at h <;> rename_i he <;> first | (cases he; done) | skip
      all_goals first
        | (cases he
           obtain ⟨u,us,e,hc,hn⟩:=hv.uncons
           simp [Op.operands] at e
           obtain ⟨r,z,hk,hr,hrun⟩:=nO h hc
           exact ⟨r,z,hk,hr,fun w=>by simp [execOp,ho,e.1,hrun w]⟩)
        | exact h.elim
    · cases hp
theorem qp {ai:Array Oper} {listed:Array Bool}:∀ {is:List Nat} {i:Nat},oG ai listed is=some i→i∈is∧∃ o,ai[i]?=some o∧sZ o=true∧Region.free .any ai listed i=true
  | [],_,h=>by cases h
  | j::js,i,h=>by
    unfold oG at h
    split at h
    · rename_i hb
      cases h
      rw [Bool.and_eq_true] at hb
      obtain ⟨h1,h2⟩:=hb
      split at h1
      · rename_i o ho
        exact ⟨List.mem_cons_self,o,ho,h1,h2⟩
      · cases h1
    · obtain ⟨h1,h2⟩:=qp h
      exact ⟨List.mem_cons_of_mem _ h1,h2⟩
theorem wT {C:Ctx} (hD:gu C) (hC:d5 C) {pl:bK} {ai:Array Oper} {G:Gh} {A:Nat→Prop} {Q:St→Prop} {Qc:Exit→Act→World→Prop} (hs:Region.noSelect ai=true) (hap:z6 ai) (hg:∀ (i:Nat) (o:Oper) (e:TypeId),ai[i]?=some o→o.op=.alloc e→o.guard=none)
    (hQ:∀ p S' E' a' w',(∀ d,p d≠none→A d)→Q S'→ah G p E' S' w'→TR E' S'.t a'→Q0 Qc .normal a' w') :
    ∀ (fuel:Nat) (listed:Array Bool) (p:Nat→Option (List AV)) (S:St) (E:Env) (a:Act) (w:World),(∀ d,p d≠none→A d)→ah G p E S w→TR E S.t a→Inv C.P p ai listed→Closed ai listed→uO C pl ai (bZ ai.toList []) fuel listed S Q→wpAny C.P .any ai (Q0 Qc) fuel listed a w
  | 0,listed,p,S,E,a,w,hA,hM,ht,hI,hcl,h=>nz hC hap hg hQ 0 listed p S E a w hA hM ht hI (rZ hD 0 listed S hcl h)
  | fuel + 1,listed,p,S,E,a,w,hA,hM,ht,hI,hcl,h=>by
    unfold uO at h
    split at h
    · rename_i i hi
      obtain ⟨hm,o,ho,hp,hf⟩:=qp hi
      obtain ⟨hc0,hgd,_,hnal⟩:=CW (pl:=pl) hp
      unfold yv at h
      rw [ho] at h
      dsimp only at h
      unfold ag at h
      rw [hgd] at h
      obtain ⟨_,h⟩:=ac h
      unfold xE at h
      rw [hc0] at h
      obtain ⟨vs,h,hv⟩:=da ht h
      obtain ⟨r,z,hk,hr,hrun⟩:=CX hp h hv
      rw [aB] at hk
      refine wpAny_take ho hs hf (by simpa using hm) (fun c a w hq=>absurd hq.1 (fun h=>by cases h)) (v:=z) (.inl ⟨by unfold Region.wanted; rw [hgd],hrun⟩) ?_
      have hI':=hI.step hap ho
      rw [lq hnal] at hI'
      exact wT hD hC hs hap hg hQ fuel _ p _ E _ w hA (hM.congr cp cq cC) (ht.put hr) hI' (hcl.set hm) hk
    · exact nz hC hap hg hQ (fuel + 1) listed p S E a w hA hM ht hI (rZ hD (fuel + 1) listed S hcl h)
theorem wU {o:Oper} {e:TypeId} {d:Nat} (h1:o.op=.alloc e) (h2:o.dst=some d):∀ {os:List Oper},o∈os→(d,e)∈cy os:=by
  intro os
  induction os with
  | nil=>intro h; cases h
  | cons x xs ih =>
    intro h
    rcases List.mem_cons.1 h with rfl | h
    · unfold cy
      rw [h1,h2]
      exact List.mem_cons_self
    · have:=ih h
      unfold cy
      split
      · exact List.mem_cons_of_mem _ this
      · exact this
theorem Br {d:Nat}:∀ {xs:List Nat},d∈xs→cV xs d=true:=by
  intro xs
  induction xs with
  | nil=>intro h; cases h
  | cons x xs ih =>
    intro h
    rcases List.mem_cons.1 h with rfl | h
    · simp [cV]
    · simp [cV,ih h]
theorem Bt {pl:bK} {x:Oper} {xs:List Oper} (hB:kC pl (cy (x::xs))=true):kC pl (cy xs)=true:=by
  unfold cy at hB
  split at hB
  · unfold kC at hB
    simp only [Bool.and_eq_true] at hB
    exact hB.2
  · exact hB
theorem r5 {pl:bK} {o o':Oper} {e e':TypeId} {d:Nat} (h3:o.op=.alloc e) (h4:o'.op=.alloc e') (h5:o.dst=some d) (h6:o'.dst=some d):∀ (os:List Oper),kC pl (cy os)=true→∀ (i i':Nat),i<i'→os[i]?=some o→os[i']?=some o'→False:=by
  intro os
  induction os with
  | nil=>intro _ i i' _ h1; simp at h1
  | cons x xs ih =>
    intro hB i i' hlt h1 h2
    cases i' with
    | zero=>omega
    | succ i' =>
      rw [List.getElem?_cons_succ] at h2
      cases i with
      | zero =>
        rw [List.getElem?_cons_zero] at h1
        cases h1
        have hm:=wU h4 h6 (List.mem_of_getElem? h2)
        unfold cy at hB
        rw [h3,h5] at hB
        unfold kC at hB
        simp only [Bool.and_eq_true,Bool.not_eq_true'] at hB
        have:=Br (d:=d) (xs:=(cy xs).map (·.1)) (List.mem_map.2 ⟨_,hm,rfl⟩)
        rw [hB.1.2] at this
        cases this
      | succ i =>
        rw [List.getElem?_cons_succ] at h1
        exact ih (Bt hB) i i' (by omega) h1 h2
theorem Bu {o:Oper} {e:TypeId} (ho:o.op=.alloc e):∀ {os:List Oper},ve os=true→o∈os→o.guard=none:=by
  intro os
  induction os with
  | nil=>intro _ h; cases h
  | cons x xs ih =>
    intro h hm
    unfold ve at h
    simp only [Bool.and_eq_true] at h
    rcases List.mem_cons.1 hm with rfl | hm
    · have h1:=h.1
      cases hg:o.guard with
      | none=>rfl
      | some g=>rw [ho,hg] at h1; cases h1
    · exact ih h.2 hm
section
variable {G:Gh} {w:World} {a:Act} {P:Program}
theorem uC:∀ {ds:List Nat} {E:Env} {S:St} {K:St→Prop},ah G pn E S w→TR E S.t a→m8 ds S K→∃ S' E',K S'∧ah G pn E' S' w∧TR E' S'.t a∧∀ d,(E.mu (.L d)=none∨d∈ds)→E'.mu (.L d)=none
  | [],E,S,K,hM,ht,h=>⟨S,E,h,hM,ht,fun d hd=>by rcases hd with hd | hd; exact hd; cases hd⟩
  | d::ds,E,S,K,hM,ht,h=>by
    unfold m8 at h
    rw [yE] at h
    obtain ⟨E1,h1,h2,h3,_,_,_,_,h4,_,_⟩:=qM hM ht d rfl
    obtain ⟨S',E',h5,h6,h7,h8⟩:=uC h1 h2 h
    refine ⟨S',E',h5,h6,h7,fun e he=>h8 e ?_⟩
    by_cases hed:e=d
    · subst hed; exact .inl h3
    · rcases he with he | he
      · exact .inl ((h4 e hed).trans he)
      · rcases List.mem_cons.1 he with he | he
        · exact absurd he hed
        · exact .inr he
theorem y_ {pl:bK} {E:Env}:∀ {xs:List (Nat×TypeId)} {S:St} {p:Nat→Option (List AV)} {K:St→Prop},ah G p E S w→(∀ d∈xs.map (·.1),E.mu (.L d)=none)→kC pl xs=true→zC P xs S K →
    ∃ S' p',K S'∧ah G p' E S' w∧S'.t=S.t∧(∀ d e,(d,e)∈xs→∃ cs,p' d=some cs∧0<cs.length∧ZR P e cs)∧∀ d,d ∉ xs.map (·.1)→p' d=p d
  | [],S,p,K,hM,_,_,h=>⟨S,p,h,hM,rfl,fun _ _ h=>(by cases h),fun _ _=>rfl⟩
  | (d,e)::xs,S,p,K,hM,hmu,hB,h=>by
    unfold zC at h
    obtain ⟨cs,hz,h,hinv⟩:=wS h
    replace h:=ac h; obtain ⟨hpos,h⟩:=h
    have hpos':0<cs.length:=Nat.le_of_ble_eq_true hpos
    have hd0:=hmu d (by simp)
    unfold kC at hB
    simp only [Bool.and_eq_true,Bool.not_eq_true'] at hB
    have hnd:d ∉ xs.map (·.1):=fun hm=>by
      have:=Br hm
      rw [hB.1.2] at this
      cases this
    have hM1:ah G (fun x=>if x=d then some cs else p x) E { t:=S.t,l:=(d,cs)::S.l,o:=S.o,b:=S.b } w :=
      ⟨hM.hp,hM.os,hM.tape,hM.output,hM.size,hM.keep,hM.F0,hM.Flt,hM.Fnew,hM.own,hM.inj,fun x=>by
        show gO _ E (if d=x then some cs else aL S.l x) x
        by_cases hx:d=x
        · subst hx
          rw [if_pos rfl]
          exact .inr ⟨hd0,by simp,hinv⟩
        · rw [if_neg hx]
          exact (hM.loc x).congr (if_neg fun h=>hx h.symm),hM.obj,hM.old,hM.bl,hM.szs,fun x row hx=>by
        show E.mu (.L x)=none∧(if d=x then some cs else aL S.l x)=some row
        by_cases hxd:x=d
        · subst hxd
          rw [if_pos rfl] at hx ⊢
          exact ⟨hd0,hx⟩
        · rw [if_neg hxd] at hx
          rw [if_neg (fun h=>hxd h.symm)]
          exact hM.pk x row hx,hM.ow⟩
    obtain ⟨S',p',h1,h2,h3,h4,h5⟩:=y_ (xs:=xs) hM1 (fun x hx=>hmu x (by simp only [List.map_cons]; exact List.mem_cons_of_mem _ hx)) hB.2 h
    refine ⟨S',p',h1,h2,h3,fun x y hxy=>?_,fun x hx=>?_⟩
    · rcases List.mem_cons.1 hxy with hxy | hxy
      · cases hxy
        refine ⟨cs,?_,hpos',hz⟩
        rw [h5 d hnd]
        simp
      · exact h4 x y hxy
    · have hx':x≠d∧x ∉ xs.map (·.1):=⟨fun he=>hx (by rw [he]; simp),fun hm=>hx (by simp only [List.map_cons]; exact List.mem_cons_of_mem _ hm)⟩
      rw [h5 x hx'.2]
      simp [hx'.1]
theorem za:∀ {xs:List (Nat×TypeId)} {S:St} {X:Prop},k8 xs S X→∀ d∈xs.map (·.1),∃ i j,S.t[d]?=some (.ptr (.L d) i j)
  | [],_,_,_,d,hd=>by cases hd
  | (d0,e)::xs,S,X,h,d,hd=>by
    unfold k8 at h
    obtain ⟨c,hc,h⟩:=cj.1 h
    split at h
    · rename_i d' i j
      obtain ⟨hb,h⟩:=ac h
      simp only [List.map_cons] at hd
      rcases List.mem_cons.1 hd with rfl | hd
      · have:=Nat.eq_of_beq_eq_true hb
        subst this
        exact ⟨i,j,hc⟩
      · exact za h d hd
    · exact False.elim h
end
theorem Dy {C:Ctx} (hmix:C.P.follows .mixedOrders=true) (hD:gu C) (hC:d5 C):mh C:=by
  intro pl id ai S K h r G E a w Q hM ht hQ
  have h':bG (uc pl ai) (xH C.P (cy ai.toList) S fun S1=>xG C pl ai S1 fun S'=>k8 (cy ai.toList) S' (kp pl id S' fun S''=>K .nrm S'')):=h
  obtain ⟨hB,h1⟩:=ac h'
  unfold uc at hB
  simp only [Bool.and_eq_true] at hB
  obtain ⟨hal,hgd⟩:=hB
  unfold xH at h1
  obtain ⟨S1,E1,h2,hM1,ht1,hmu⟩:=uC hM ht h1
  obtain ⟨S2,p2,h3,hM2,ht2,hrow,hout⟩:=y_ hM1 (fun d hd=>hmu d (.inr hd)) hal h2
  refine wpIn_region_any hmix ?_
  obtain ⟨hnd,h3⟩:=ac h3
  obtain ⟨hns,hnd⟩:=F_ hnd
  have hcl:Closed ai (Array.replicate ai.size false):=fun j hj=>by
    simp only [Array.getD_eq_getD_getElem?,Array.getElem?_replicate] at hj
    split at hj <;> simp at hj
  refine r4 hnd _ _ _ _ ?_
  have h4:uO C pl ai (bZ ai.toList []) ai.size (Array.replicate ai.size false) S2 (fun S'=>k8 (cy ai.toList) S' (kp pl id S' fun S''=>K .nrm S''))∨Bn C pl ai (fun S'=>k8 (cy ai.toList) S' (kp pl id S' fun S''=>K .nrm S'')) ai.size (Array.replicate ai.size false) S2:=by
    split at h3
    · exact .inr (rZ hD _ _ _ hcl h3)
    · exact .inl h3
  have hap1:z6 ai:=by
    intro i i' o o' e e' d h1 h2 h3 h4 h5 h6
    rcases Nat.lt_trichotomy i i' with hlt | heq | hlt
    · exact (r5 h3 h4 h5 h6 _ hal i i' hlt (by rw [Array.getElem?_toList]; exact h1) (by rw [Array.getElem?_toList]; exact h2)).elim
    · exact heq
    · exact (r5 h4 h3 h6 h5 _ hal i' i hlt (by rw [Array.getElem?_toList]; exact h2) (by rw [Array.getElem?_toList]; exact h1)).elim
  have hg1:∀ (i:Nat) (o:Oper) (e:TypeId),ai[i]?=some o→o.op=.alloc e→o.guard=none:=fun i o e h1 h2=>Bu h2 hgd (List.mem_of_getElem? (by rw [Array.getElem?_toList]; exact h1))
  have hQ1:∀ p S' E' a' w',(∀ d,p d≠none→d∈(cy ai.toList).map (·.1))→k8 (cy ai.toList) S' (kp pl id S' fun S''=>K .nrm S'')→ah G p E' S' w'→TR E' S'.t a'→Q0 Q .normal a' w':=by
    intro p S' E' a' w' hp hk hS htr
    refine ⟨rfl,?_⟩
    have hps:=za hk
    have hpn:p=pn:=by
      funext d
      cases hd:p d with
      | none=>rfl
      | some row =>
        exfalso
        obtain ⟨i,j,hij⟩:=hps d (hp d (by rw [hd]; exact fun h=>by cases h))
        have hlt:d<a'.tmps.size:=by rw [← htr.len]; exact (List.getElem?_eq_some_iff.1 hij).1
        have hv:=htr.val d _ _ hij (Array.getElem?_eq_getElem hlt)
        have hne:∃ y,E'.mu (.L d)=some y:=by
          generalize a'.tmps[d]=u at hv
          cases hv with
          | ptr _ _ hs0 hm=>exact ⟨_,hm⟩
        obtain ⟨y,hy⟩:=hne
        have:=(hS.pk d row hd).1
        rw [hy] at this
        cases this
    subst hpn
    obtain ⟨S2,E2,h2,hS2,ht2⟩:=lU hS htr (mQ hk).1
    exact hQ .nrm _ E2 _ _ h2 hS2 ht2
  have hA1:∀ d,p2 d≠none→d∈(cy ai.toList).map (·.1):=by
    intro d hd
    cases Classical.em (d∈(cy ai.toList).map (·.1)) with
    | inl h=>exact h
    | inr h=>exact (hd ((hout d h).trans rfl)).elim
  have hI1:Inv C.P p2 ai (Array.replicate ai.size false):=by
    intro i o e d h1 h2 h3 _
    exact hrow d e (wU h2 h3 (List.mem_of_getElem? (by rw [Array.getElem?_toList]; exact h1)))
  rcases h4 with h4 | h4
  · exact wT hD hC hns hap1 hg1 hQ1 ai.size _ p2 S2 E1 a _ hA1 hM2.drawn (by rw [ht2]; exact ht1) hI1 hcl h4
  · exact nz hC hap1 hg1 hQ1 ai.size _ p2 S2 E1 a _ hA1 hM2.drawn (by rw [ht2]; exact ht1) hI1 h4
theorem CY {cfg:pZ} (hX:JC cfg) (hN:lW cfg.P) (hmix:cfg.P.follows .mixedOrders=true) (n:Nat):d5 (gp cfg n)∧np (gp cfg n)∧mh (gp cfg n) :=
  Hw hX.pure hX.sound hN (wH hX) (fun n h=>Dy (by rw [nq]; exact hmix) (mR hX n) h) n
open Go.RowKit Go.WideShapes Go.ChangeShapes
section
variable {H:Type} {enc:TypeId×Value→H} {P:Program}
theorem xW {f:Func} {s:ChangeSpec} {apart fresh handsOn again:Bool} {W W':World} {args:Array Value} {v:Value} {ds gs:List (DataW H)} {before pa pv:List MemPlace}
    (hW:DataW.Whole enc P f.params.toList s.vars apart W args.toList ds gs before)
    (hres:∀ (b:Nat) (sp:Nat→Bool) (hd:Bool),DataW.TrodAll enc P W' b sp hd f.resultTypes.toList (v.resultList f.resultTypes.size) (s.fn H (ds++gs)).results [])
    (hargs:∀ sp:Nat→Bool,(∀ p∈before,sp p.block=true)→DataW.TrodAll enc P W' 0 sp true f.params.toList args.toList (s.fn H (ds++gs)).args pa)
    (hvars:∀ sp:Nat→Bool,(∀ p∈before,sp p.block=true)→DataW.TrodVars enc P W' sp s.vars (s.fn H (ds++gs)).vars pv)
    (hps:before=pa++pv) (hb:Below W.heap.size W W')
    (hok:∀ (j:Nat) (t:TypeId) (r:Value),f.resultTypes[j]?=some t→(v.resultList f.resultTypes.size)[j]?=some r→Value.okWide P W' .any 0 t r) :
    s.post enc P f apart fresh handsOn again W args v W':=by
  have hlt:∀ p∈before,p.block<W.heap.size:=fun p hp=>hW.lt p hp
  have hold:∀ p∈before,(fun b=>decide (b<W.heap.size)) p.block=true:=fun p hp=>by simpa using hlt p hp
  refine ⟨ds,gs,before,[],pa,pv,hW,hres _ _ _,hargs _ hold,hvars _ hold,World.keptBut_mono (fun p hp=>⟨hp,?_⟩) (hb.frame (·∈before)),fun _=>?_⟩
  · rw [hps,List.mem_append] at hp
    exact Or.inr hp
  · obtain ⟨_,_,_,_,_,hz,hn⟩:=hW
    refine ⟨hok,_,_,([]++pa)++pv,⟨[]++pa,pv,trodAll_append (hargs _ (fun _ _=>rfl)) (hres _ _ _),hvars _ (fun _ _=>rfl),rfl,?_,?_⟩,?_⟩
    · intro b off hp
      have hin:MemPlace.cell b off∈before:=by rw [hps]; simpa using hp
      rw [hb.frozen (hlt _ hin)]
      exact hz b off hin
    · intro ha
      have:=hn ha
      rw [hps] at this
      simpa using this
    · intro p hp _
      rw [hps]
      simpa using hp
end
def If (cfg:pZ) (n f:Nat) (args:List AV) (r:AV):Prop:=rE (gp cfg n) f args fun x=>x=r
theorem Bv {P : Program} (h : (P.funcs.all fun fn => !(fn.name == "runtime.NumGoroutine")) = true) : lW P := by
  intro f fn hf
  have hlt:f<P.funcs.size:=(Array.getElem?_eq_some_iff.1 hf).1
  have:=Array.all_eq_true.1 h f hlt
  rw [Array.getElem?_eq_getElem hlt] at hf
  cases hf
  simpa using this
def ja (P:Program) (_pl:bK) (c:Code) (S:St) (K:Ex→St→Prop):Prop :=
  ∃ n e S',(∀ (r:Option Nat) (G:Gh) (E:Env) (a:Act) (w:World) (Q:Exit→Act→World→Prop),ah G pn E S w→TR E S.t a→FW G (fun e' S''=>e'=e∧S''=S') Q→Code.roundsIn (rd r) 0 P c Q n a w)∧K e S'
def SD (P:Program) (f:Nat) (args:List AV) (o:List Ob) (K:AV→List Ob→Prop):Prop :=
  ∃ r o',qi P f args o (fun r' o''=>r'=r∧o''=o')∧K r o'
def i6 (cfg:pZ):Ctx:={ P:=cfg.P,pure:=cfg.pure,pol:=cfg.pol,pcall:=d_ cfg.P,scall:=SD cfg.P,loop:=ja cfg.P }
theorem qi.mono {P:Program} {f:Nat} {args:List AV} {o:List Ob} {K K':AV→List Ob→Prop} (h:qi P f args o K) (hk:∀ r o',K r o'→K' r o'):qi P f args o K' :=
  ⟨h.1,fun E w us hM hg hv=>(h.2 E w us hM hg hv).mono fun _ _ ⟨v,r,o',E',h1,h2,h3,h4⟩=>⟨v,r,o',E',hk _ _ h1,h2,h3,h4⟩⟩
theorem SD.out {P:Program} {f:Nat} {args:List AV} {o:List Ob} {K:AV→List Ob→Prop} (h:SD P f args o K):qi P f args o K:=by
  obtain ⟨r,o',h1,h2⟩:=h
  exact h1.mono fun _ _ ⟨e1,e2⟩=>by rw [e1,e2]; exact h2
theorem kM (cfg:pZ):d5 (i6 cfg):=⟨fun _ _ _ h=>h,fun _ _ _ _ h=>h.out⟩
theorem o5 (cfg:pZ):gu (i6 cfg) :=
  ⟨fun _ _ _ ⟨r,h1,h2⟩=>⟨r,h2,fun _ h=>⟨r,h1,h⟩⟩,fun _ _ _ _ ⟨r,o',h1,h2⟩=>⟨r,o',h2,fun _ h=>⟨r,o',h1,h⟩⟩,fun _ _ _ _ ⟨n,e,S',h1,h2⟩=>⟨e,S',h2,fun _ h=>⟨n,e,S',h1,h⟩⟩⟩
theorem kN (cfg:pZ):np (i6 cfg):=by
  rintro pl c S K ⟨n,e,S',h1,h2⟩ r G E a w Q hM ht hQ
  exact wpIn_loop_rounds n (h1 r G E a w Q hM ht fun e' S'' E' a' w' ⟨e1,e2⟩ hS htr=>by subst e1 e2; exact hQ _ _ _ _ _ h2 hS htr)
theorem mT {cfg:pZ} (hmix:cfg.P.follows .mixedOrders=true):mh (i6 cfg):=Dy hmix (o5 cfg) (kM cfg)
theorem ja.step {cfg:pZ} (hmix:cfg.P.follows .mixedOrders=true) {pl:bK} {c:Code} {S:St} {K:Ex→St→Prop}
    (h:gN (i6 cfg) pl c S fun e S'=>match e with
      | .nrm=>ja cfg.P pl c S' K
      | .ex i=>K (.ex i) S'
      | .ret=>K .ret S'):ja cfg.P pl c S K:=by
  obtain ⟨e1,S1,h1,h2⟩:=tl (o5 cfg) c _ h
  have run:∀ (e:Ex) (S2:St) (n:Nat),(∀ (r:Option Nat) (G:Gh) (E:Env) (a:Act) (w:World) (Q:Exit→Act→World→Prop),ah G pn E S1 w→TR E S1.t a→FW G (fun e' S''=>e'=e∧S''=S2) Q→Exit.then (Code.roundsIn (rd r) 0 cfg.P c Q n) Q (Hu e1) a w) →
      ∀ (r:Option Nat) (G:Gh) (E:Env) (a:Act) (w:World) (Q:Exit→Act→World→Prop),ah G pn E S w→TR E S.t a→FW G (fun e' S''=>e'=e∧S''=S2) Q→Code.roundsIn (rd r) 0 cfg.P c Q (n + 1) a w:=by
    intro e S2 n hn r G E a w Q hM ht hQ
    refine oQ (kM cfg) (kN cfg) (mT hmix) c (h2 (fun e' S'=>e'=e1∧S'=S1) ⟨rfl,rfl⟩) r G E a w _ hM ht (fun e' S' E' a' w' hk hS htr=>?_)
    obtain ⟨rfl,rfl⟩:=hk
    exact hn r G E' a' w' Q hS htr hQ
  cases e1 with
  | nrm =>
    obtain ⟨n,e,S',hl,hk⟩:=h1
    exact ⟨n + 1,e,S',run e S' n (fun r G E a w Q hM ht hQ=>hl r G E a w Q hM ht hQ),hk⟩
  | ex i=>exact ⟨1,.ex i,S1,run _ _ 0 (fun r G E a w Q hM ht hQ=>hQ _ _ _ _ _ ⟨rfl,rfl⟩ hM ht),h1⟩
  | ret=>exact ⟨1,.ret,S1,run _ _ 0 (fun r G E a w Q hM ht hQ=>hQ _ _ _ _ _ ⟨rfl,rfl⟩ hM ht),h1⟩
theorem d_.mono {P:Program} {f:Nat} {args:List AV} {K K':AV→Prop} (h:d_ P f args K) (hk:∀ r,K r→K' r):d_ P f args K' :=
  let ⟨r,h1,h2⟩:=h
  ⟨r,h1,hk _ h2⟩
theorem ja.mono {P:Program} {pl:bK} {c:Code} {S:St} {K K':Ex→St→Prop} (h:ja P pl c S K) (hk:∀ e S',K e S'→K' e S'):ja P pl c S K' :=
  let ⟨n,e,S',h1,h2⟩:=h
  ⟨n,e,S',h1,hk _ _ h2⟩
theorem SD.mono {P:Program} {f:Nat} {args:List AV} {o:List Ob} {K K':AV→List Ob→Prop} (h:SD P f args o K) (hk:∀ r o',K r o'→K' r o'):SD P f args o K' :=
  let ⟨r,o',h1,h2⟩:=h
  ⟨r,o',h1,hk _ _ h2⟩
theorem d_.of {cfg:pZ} (hN:lW cfg.P) (hmix:cfg.P.follows .mixedOrders=true) {f:Nat} {args:List AV} {K:AV→Prop} (h:rE (i6 cfg) f args K):d_ cfg.P f args K :=
  oR (kM cfg) (kN cfg) (mT hmix) hN (fun f args K h=>by
    obtain ⟨r,h1,h2⟩:=tm (o5 cfg) K h
    exact ⟨r,h1,h2 _ rfl⟩) h
theorem SD.of {cfg:pZ} (hN:lW cfg.P) (hmix:cfg.P.follows .mixedOrders=true) {f:Nat} {args:List AV} {o:List Ob} {K:AV→List Ob→Prop} (h:s3 (i6 cfg) f args o K):SD cfg.P f args o K:=by
  obtain ⟨r,o',h1,h2⟩:=wG (o5 cfg) K h
  exact ⟨r,o',rT (kM cfg) (kN cfg) (mT hmix) hN (h2 _ ⟨rfl,rfl⟩),h1⟩
theorem d_.ofN {cfg:pZ} (hX:JC cfg) (hN:lW cfg.P) (hmix:cfg.P.follows .mixedOrders=true) {n f:Nat} {args:List AV} {r:AV} (h:If cfg n f args r):d_ cfg.P f args fun x=>x=r:=by
  obtain ⟨h1,h2,h3⟩:=CY hX hN hmix n
  have hP:=nq cfg n
  have:=oR h1 h2 h3 (by rw [hP]; exact hN) (wH hX n) h
  rw [hP] at this
  exact this
theorem q7 {P:Program} {f:Nat} {args:List AV} (h:d_ P f args fun x=>x=.v (.bool true)) (F:Nat→Prop) (w:World) (us:Array Value) (hF:∀ b,F b→b<w.heap.size) (hg:Ck ⟨F,fun _=>none,w.heap⟩) (hv:cb ⟨F,fun _=>none,w.heap⟩ args us.toList) :
    Calls P f us w fun e w'=>e=.returned (.bool true)∧Go.RowKit.Below w.heap.size w w':=by
  obtain ⟨r,⟨_,h4⟩,rfl⟩:=h
  refine (h4 F w us hF hg hv).mono ?_
  rintro e w' ⟨v,F',rfl,hv,hb,_⟩
  exact ⟨by rw [hv.vI.1],hb⟩
open Go.ChangeShapes Go.WideShapes
def z7 (P:Program):List Field→Nat→Bool
  | [],_=>true
  | f::fs,k=>Nat.beq f.offset k&&z7 P fs (k + P.cellsOf f.type)
def uD (P:Program):Nat→TypeId→Bool
  | 0,_=>false
  | n + 1,t =>
    match P.underlying t with
    | some .bool | some (.int _) | some .string=>true
    | some (.slice e)=>Nat.blt 0 (P.cellsOf e)&&uD P n e
    | some (.struct fs)=>z7 P fs.toList 0&&Nat.beq (fs.toList.foldl (fun s f=>s + P.cellsOf f.type) 0) (P.cellsOf t)&&fs.toList.all fun f=>uD P n f.type
    | _=>false
def dE {H:Type} (P:Program):Nat→TypeId→DataW H→Bool
  | 0,_,_=>false
  | n + 1,t,d =>
    match P.underlying t,d with
    | some .bool,.lit (.bool _)=>true
    | some (.int k),.lit (.int k' m)=>decide (k'=k)&&(Lit.int k m).wf
    | some .string,.lit (.string bs)=>decide (bs.length≤maxLen)
    | some (.slice _),.nil=>true
    | some (.slice e),.slice xs _=>decide (xs.length≤maxLen)&&xs.all (dE P n e)
    | some (.struct fs),.agg ds=>Nat.beq ds.length fs.size&&(fs.toList.zip ds).all fun x=>dE P n x.1.type x.2
    | _,_=>false
def iy {H:Type} (P:Program):Nat→TypeId→DataW H→List AV
  | 0,_,_=>[]
  | n + 1,t,d =>
    match P.underlying t,d with
    | some .bool,.lit (.bool b)=>[.v (.bool b)]
    | some (.int k),.lit (.int _ m)=>[.v (.int k m)]
    | some .string,.lit (.string bs)=>[.v (.string ⟨bs.toArray⟩)]
    | some (.slice _),.nil=>[.nilsl]
    | some (.slice e),.slice xs _=>[.sl (xs.map (iy P n e))]
    | some (.struct fs),.agg ds=>(fs.toList.zip ds).flatMap fun x=>iy P n x.1.type x.2
    | _,_=>[]
def uX (w:World):Env:=⟨fun b=>b<w.heap.size,fun _=>none,w.heap⟩
theorem wV {α β:Type} {f:α→Option β}:∀ {xs:List α} {ys:List β},xs.mapM f=some ys→xs.length=ys.length∧∀ (i:Nat) (x:α),xs[i]?=some x→∃ y,ys[i]?=some y∧f x=some y
  | [],ys,h=>by
    simp at h
    subst h
    exact ⟨rfl,fun i x h=>by simp at h⟩
  | x::xs,ys,h=>by
    rw [List.mapM_cons] at h
    simp only [Option.pure_def,Option.bind_eq_bind,Option.bind_eq_some_iff,Option.some.injEq] at h
    obtain ⟨y,hy,ys',hys,rfl⟩:=h
    obtain ⟨h1,h2⟩:=wV hys
    refine ⟨by simp [h1],fun i z hz=>?_⟩
    cases i with
    | zero =>
      simp only [List.getElem?_cons_zero,Option.some.injEq] at hz
      subst hz
      exact ⟨y,rfl,hy⟩
    | succ i=>exact h2 i z (by simpa using hz)
theorem q8 {w:World} {a:Addr} {v:Value} (h:w.cell? a=some v):a.spot=none∧a.block<w.heap.size∧dI w.heap a.block a.off=some v:=by
  unfold World.cell? at h
  split at h
  · rename_i c t fr hb
    split at h
    · cases h
    · rename_i hs
      refine ⟨by simpa using hs,(Array.getElem?_eq_some_iff.1 hb).1,?_⟩
      unfold dI
      rw [hb]
      exact h
  · cases h
theorem wW (P:Program):∀ (fs:List Field) (k:Nat),fs.foldl (fun s f=>s + P.cellsOf f.type) k=k + fs.foldl (fun s f=>s + P.cellsOf f.type) 0
  | [],k=>by simp
  | f::fs,k=>by
    rw [List.foldl_cons,List.foldl_cons,wW P fs (k + _),wW P fs (0 + _)]
    omega
theorem wX {α:Type} {sz:Nat}:∀ {rows:List (List α)} {m:Nat} {c:α},0<sz→(∀ r∈rows,r.length=sz)→rows.flatten[m]?=some c→∃ r,rows[m / sz]?=some r∧r[m % sz]?=some c
  | [],m,c,_,_,h=>by simp at h
  | r::rs,m,c,hs,hr,h=>by
    have h0:=hr r List.mem_cons_self
    rw [List.flatten_cons] at h
    by_cases hm:m<sz
    · rw [List.getElem?_append_left (by omega)] at h
      refine ⟨r,?_,?_⟩
      · rw [Nat.div_eq_of_lt hm]; rfl
      · rw [Nat.mod_eq_of_lt hm]; exact h
    · rw [List.getElem?_append_right (by omega),h0] at h
      obtain ⟨r',h1,h2⟩:=wX (rows:=rs) hs (fun r h=>hr r (List.mem_cons_of_mem _ h)) h
      have e1:m / sz=(m - sz) / sz + 1:=by
        rw [← Nat.add_div_right _ hs]
        congr 1
        omega
      have e2:m % sz=(m - sz) % sz:=by
        rw [Nat.mod_eq_sub_mod (by omega)]
      rw [e1,e2,List.getElem?_cons_succ]
      exact ⟨r',h1,h2⟩
section
variable {H:Type} {enc:TypeId×Value→H} {P:Program} {w:World} {sp:Nat→Bool}
theorem HB:(uX w).fz=uX w:=rfl
theorem zb {n:Nat} {base:Nat} {fuel:Nat} (ih:∀ {fuel:Nat} {t:TypeId} {cs:List Value} {d:DataW H} {ps:List MemPlace},uD P n t=true→cs.length=P.cellsOf t→DataW.trod enc P w base sp true fuel t cs=some (d,ps)→dE P n t d=true∧cb (uX w) (iy P n t d) cs) :
    ∀ (fs:List Field) (k:Nat) (cs:List Value) (xs:List (DataW H×List MemPlace)),z7 P fs k=true→k + fs.foldl (fun s f=>s + P.cellsOf f.type) 0=cs.length→(fs.all fun f=>uD P n f.type)=true →
      fs.mapM (fun f=>DataW.trod enc P w base sp true fuel f.type ((cs.drop f.offset).take (P.cellsOf f.type)))=some xs →
      ((fs.zip (xs.map (·.1))).all fun x=>dE P n x.1.type x.2)=true∧cb (uX w) ((fs.zip (xs.map (·.1))).flatMap fun x=>iy P n x.1.type x.2) (cs.drop k)
  | [],k,cs,xs,_,hl,_,h=>by
    simp at h
    subst h
    simp at hl
    refine ⟨rfl,?_⟩
    rw [List.drop_eq_nil_of_le (by omega)]
    exact .nil _
  | f::fs,k,cs,xs,hc,hl,hg,h=>by
    rw [List.mapM_cons] at h
    simp only [Option.pure_def,Option.bind_eq_bind,Option.bind_eq_some_iff,Option.some.injEq] at h
    obtain ⟨y,hy,ys,hys,rfl⟩:=h
    unfold z7 at hc
    simp only [Bool.and_eq_true] at hc
    have hoff:=Nat.eq_of_beq_eq_true hc.1
    simp only [List.all_cons,Bool.and_eq_true] at hg
    rw [List.foldl_cons,wW] at hl
    rw [hoff] at hy
    have hlen:((cs.drop k).take (P.cellsOf f.type)).length=P.cellsOf f.type:=by simp; omega
    obtain ⟨h1,h2⟩:=ih (ps:=y.2) hg.1 hlen hy
    obtain ⟨h3,h4⟩:=zb ih fs (k + P.cellsOf f.type) cs ys hc.2 (by omega) hg.2 hys
    refine ⟨by simp [h1,h3],?_⟩
    show cb _ (iy P n f.type y.1++_) _
    have:=h2.append h4
    rw [← List.drop_drop,List.take_append_drop] at this
    exact this
theorem vk {base:Nat}:∀ (n:Nat) {fuel:Nat} {t:TypeId} {cs:List Value} {d:DataW H} {ps:List MemPlace},uD P n t=true→cs.length=P.cellsOf t→DataW.trod enc P w base sp true fuel t cs=some (d,ps)→dE P n t d=true∧cb (uX w) (iy P n t d) cs
  | 0,_,_,_,_,_,h,_,_=>by cases h
  | n + 1,0,_,_,_,_,_,_,h=>by simp [DataW.trod] at h
  | n + 1,fuel + 1,t,cs,d,ps,hg,hlen,h=>by
    have one:∀ {c:AV} {u:Value},VR (uX w) c u→cb (uX w) [c] [u]:=fun h=>.cons h (.nil _)
    unfold uD at hg
    unfold DataW.trod at h
    split at hg
    · rename_i hu
      rw [hu] at h
      split at h <;> first | (simp_all; done) | skip
      rename_i b _ _
      simp only [Option.some.injEq,Prod.mk.injEq] at h
      obtain ⟨rfl,_⟩:=h
      refine ⟨by unfold dE; rw [hu],?_⟩
      unfold iy
      rw [hu]
      exact one (.v _ _ rfl)
    · rename_i k hu
      rw [hu] at h
      split at h <;> first | (simp_all; done) | skip
      rename_i k' kk m e2
      cases e2
      split at h
      · rename_i hk
        simp only [Option.some.injEq,Prod.mk.injEq] at h
        obtain ⟨rfl,_⟩:=h
        obtain ⟨hkk,hwf⟩:=hk
        subst hkk
        refine ⟨by unfold dE; rw [hu]; simp [hwf],?_⟩
        unfold iy
        rw [hu]
        exact one (.v _ _ rfl)
      · cases h
    · rename_i hu
      rw [hu] at h
      split at h <;> first | (simp_all; done) | skip
      rename_i s e2
      split at h
      · rename_i hs
        simp only [Option.some.injEq,Prod.mk.injEq] at h
        obtain ⟨rfl,_⟩:=h
        refine ⟨by unfold dE; rw [hu]; simpa using hs,?_⟩
        unfold iy
        rw [hu]
        have:(⟨s.data.toList.toArray⟩:ByteArray)=s:=by cases s; simp
        dsimp only
        rw [this]
        exact one (.v _ _ rfl)
      · cases h
    · rename_i e hu
      simp only [Bool.and_eq_true] at hg
      have hsz:0<P.cellsOf e:=Nat.le_of_ble_eq_true hg.1
      rw [hu] at h
      split at h <;> first | (simp_all; done) | skip
      · simp only [Option.some.injEq,Prod.mk.injEq] at h
        obtain ⟨rfl,_⟩:=h
        refine ⟨by unfold dE; rw [hu],?_⟩
        unfold iy
        rw [hu]
        exact one (.nilsl _)
      · rename_i e0 a len cap e2
        cases e2
        dsimp only at h
        split at h
        · rename_i hb
          simp only [Option.bind_eq_some_iff,Option.map_eq_some_iff,Prod.mk.injEq] at h
          obtain ⟨elems,he,rest,_,rfl,_⟩:=h
          obtain ⟨hl1,hget⟩:=wV he
          simp only [List.length_range] at hl1
          have hel:∀ (i:Nat) (y:DataW H×List MemPlace),elems[i]?=some y→∃ cs',(w.cells? base (a.add (i * P.cellsOf e)) (P.cellsOf e))=some cs'∧dE P n e y.1=true∧cb (uX w) (iy P n e y.1) cs':=by
            intro i y hy
            have hi:i<len:=by rw [hl1]; exact (List.getElem?_eq_some_iff.1 hy).1
            obtain ⟨y',hy',hf⟩:=hget i i (by simp [hi])
            rw [hy] at hy'
            cases hy'
            simp only [Option.bind_eq_some_iff] at hf
            obtain ⟨cs',hc,ht⟩:=hf
            have hcl:=(World.cells?_some hc).2.1
            obtain ⟨h1,h2⟩:=vk n (ps:=y.2) hg.2 hcl ht
            exact ⟨cs',hc,h1,h2⟩
          refine ⟨?_,?_⟩
          · unfold dE
            rw [hu]
            simp only [Bool.and_eq_true,decide_eq_true_eq,List.length_map,List.all_eq_true,List.mem_map]
            refine ⟨by omega,?_⟩
            rintro x ⟨y,hy,rfl⟩
            obtain ⟨i,hi,hiy⟩:=List.getElem_of_mem hy
            obtain ⟨cs',_,h1,_⟩:=hel i y (by rw [List.getElem?_eq_getElem hi,hiy])
            exact h1
          · unfold iy
            rw [hu]
            refine one ?_
            cases hlen0:len with
            | zero =>
              have:elems=[]:=List.eq_nil_of_length_eq_zero (by omega)
              rw [this]
              exact .sle _ a cap
            | succ len' =>
              have hrow:∀ (i:Nat) (y:DataW H×List MemPlace),elems[i]?=some y→∃ cs',cs'.length=P.cellsOf e∧cb (uX w) (iy P n e y.1) cs'∧∀ j,j<P.cellsOf e→w.cell? ((a.add (i * P.cellsOf e)).add j)=cs'[j]?:=by
                intro i y hy
                obtain ⟨cs',hc,_,h2⟩:=hel i y hy
                obtain ⟨_,h3,h4⟩:=World.cells?_some hc
                exact ⟨cs',h3,h2,h4⟩
              obtain ⟨y0,hy0⟩:∃ y0,elems[0]?=some y0:=⟨elems[0]'(by omega),List.getElem?_eq_getElem (by omega)⟩
              obtain ⟨c0,hc0,_,hat0⟩:=hrow 0 y0 hy0
              have h00:=hat0 0 hsz
              simp only [Nat.zero_mul,Addr.add,if_pos] at h00
              have hv0:c0[0]?=some (c0[0]'(by omega)):=List.getElem?_eq_getElem (by omega)
              rw [hv0] at h00
              obtain ⟨hspot,hblk,_⟩:=q8 h00
              obtain ⟨b,off,spot⟩:=a
              simp only at hspot hblk
              subst hspot
              have hadd:∀ x,(⟨b,off,none⟩:Addr).add x=⟨b,off + x,none⟩:=fun x=>by unfold Addr.add; split <;> simp_all
              have hrl:∀ r∈(elems.map (·.1)).map (iy P n e),r.length=P.cellsOf e:=by
                intro r hr
                simp only [List.map_map,List.mem_map] at hr
                obtain ⟨y,hy,rfl⟩:=hr
                obtain ⟨i,hi,hiy⟩:=List.getElem_of_mem hy
                obtain ⟨cs',h1,h2,_⟩:=hrow i y (by rw [List.getElem?_eq_getElem hi,hiy])
                exact h2.1.trans h1
              have hfl:((elems.map (·.1)).map (iy P n e)).flatten.length=len * P.cellsOf e:=by
                have:∀ (rows:List (List AV)),(∀ r∈rows,r.length=P.cellsOf e)→rows.flatten.length=rows.length * P.cellsOf e:=by
                  intro rows
                  induction rows with
                  | nil=>intro _; simp
                  | cons r rs ih=>intro hr; rw [List.flatten_cons,List.length_append,ih (fun r h=>hr r (List.mem_cons_of_mem _ h)),hr r List.mem_cons_self,List.length_cons,Nat.succ_mul]; omega
                rw [this _ hrl]
                simp [hl1]
              have hcell:∀ m,m<len * P.cellsOf e→∃ u,dI w.heap b (off + m)=some u:=by
                intro m hm
                have hi:m / P.cellsOf e<len:=(Nat.div_lt_iff_lt_mul hsz).2 hm
                have hj:m % P.cellsOf e<P.cellsOf e:=Nat.mod_lt _ hsz
                obtain ⟨y,hy⟩:∃ y,elems[m / P.cellsOf e]?=some y:=⟨elems[m / P.cellsOf e]'(by omega),List.getElem?_eq_getElem (by omega)⟩
                obtain ⟨cs',h1,h2,h3⟩:=hrow _ y hy
                have h4:=h3 _ hj
                have hv:cs'[m % P.cellsOf e]?=some (cs'[m % P.cellsOf e]'(by omega)):=List.getElem?_eq_getElem (by omega)
                rw [hv,hadd] at h4
                have hadd2:∀ x y,(⟨b,x,none⟩:Addr).add y=⟨b,x + y,none⟩:=fun x y=>by unfold Addr.add; split <;> simp_all
                rw [hadd2] at h4
                obtain ⟨_,_,h5⟩:=q8 h4
                have ee:off + m / P.cellsOf e * P.cellsOf e + m % P.cellsOf e=off + m:=by
                  have:=Nat.div_add_mod m (P.cellsOf e)
                  rw [Nat.mul_comm] at this
                  omega
                simp only [ee] at h5
                exact ⟨_,h5⟩
              have hus:=VR.sl (E:=uX w) (rows:=(elems.map (·.1)).map (iy P n e)) (sz:=P.cellsOf e) (b:=b) (o:=off) (cap:=cap)
                ((List.range (len * P.cellsOf e)).map fun m=>(dI w.heap b (off + m)).getD undef) hsz hrl (by rw [hfl]; simp) (fun m c u h1 h2=>?_) hblk (fun m u hu'=>?_) (by simp; omega)
              · have e1:((elems.map (·.1)).map (iy P n e)).length=len' + 1:=by simp; omega
                rw [e1] at hus
                exact hus
              · rw [HB]
                obtain ⟨r,h3,h4⟩:=wX hsz hrl h1
                rw [List.getElem?_map,List.getElem?_map,Option.map_eq_some_iff] at h3
                obtain ⟨x,h3,rfl⟩:=h3
                rw [Option.map_eq_some_iff] at h3
                obtain ⟨y,hy,rfl⟩:=h3
                obtain ⟨cs',h5,h6,h7⟩:=hrow _ y hy
                obtain ⟨u',hu1,hu2⟩:=h6.get h4
                have hj:m % P.cellsOf e<P.cellsOf e:=Nat.mod_lt _ hsz
                have h8:=h7 _ hj
                have hadd2:∀ x y,(⟨b,x,none⟩:Addr).add y=⟨b,x + y,none⟩:=fun x y=>by unfold Addr.add; split <;> simp_all
                rw [hu1,hadd,hadd2] at h8
                obtain ⟨_,_,h9⟩:=q8 h8
                have ee:off + m / P.cellsOf e * P.cellsOf e + m % P.cellsOf e=off + m:=by
                  have:=Nat.div_add_mod m (P.cellsOf e)
                  rw [Nat.mul_comm] at this
                  omega
                simp only [ee] at h9
                have hm:m<len * P.cellsOf e:=by rw [← hfl]; exact (List.getElem?_eq_some_iff.1 h1).1
                rw [List.getElem?_map,List.getElem?_range hm] at h2
                simp only [Option.map_some,h9,Option.getD_some,Option.some.injEq] at h2
                subst h2
                exact hu2
              · have hm:m<len * P.cellsOf e:=by
                  have:=(List.getElem?_eq_some_iff.1 hu').1
                  simpa using this
                rw [List.getElem?_map,List.getElem?_range hm] at hu'
                obtain ⟨u',h5⟩:=hcell m hm
                simp only [Option.map_some,h5,Option.getD_some,Option.some.injEq] at hu'
                subst hu'
                exact h5
        · cases h
    · rename_i fs hu
      simp only [Bool.and_eq_true] at hg
      rw [hu] at h
      split at h <;> first | (simp_all; done) | skip
      rename_i fs0 e1
      cases e1
      rw [if_pos hlen] at h
      simp only [Option.map_eq_some_iff,Prod.mk.injEq] at h
      obtain ⟨xs,hx,rfl,_⟩:=h
      have hsum:=Nat.eq_of_beq_eq_true hg.1.2
      obtain ⟨h1,h2⟩:=zb (n:=n) (base:=base) (fuel:=fuel) (fun hg hl ht=>vk n hg hl ht) fs.toList 0 _ xs hg.1.1 (by omega) hg.2 hx
      obtain ⟨hl1,_⟩:=wV hx
      refine ⟨?_,?_⟩
      · unfold dE
        rw [hu]
        simp only [Bool.and_eq_true]
        exact ⟨by simp at hl1; simp [hl1],h1⟩
      · unfold iy
        rw [hu]
        simpa using h2
    · cases hg
end
def uE {H:Type} (P:Program) (n:Nat) (t:TypeId) (d:DataW H):AV :=
  match P.underlying t with
  | some (.struct _)=>.agg (iy P n t d)
  | _=>(iy P n t d).headD .bad
def o6 (P:Program) (t:TypeId):Bool :=
  match P.underlying t with
  | some (.struct _)=>true
  | _=>false
def Dz (P:Program) (n:Nat) (t:TypeId):Bool:=uD P n t&&(o6 P t||Nat.beq (P.cellsOf t) 1)
section
variable {H:Type} {enc:TypeId×Value→H} {P:Program} {W W':World}
theorem IY {n:Nat} {t:TypeId} {v:Value} {d:DataW H} {p:List MemPlace} {base:Nat} (hg:Dz P n t=true) (hv:Value.okWide P W .any base t v) (h:DataW.Trod enc P W 0 (fun _=>true) true t v d p) :
    dE P n t d=true∧VR (uX W) (uE P n t d) v:=by
  unfold Dz at hg
  simp only [Bool.and_eq_true,Bool.or_eq_true] at hg
  obtain ⟨fuel,hf⟩:=h
  cases hs:o6 P t with
  | true =>
    unfold o6 at hs
    split at hs
    · rename_i fs hu
      unfold Value.okWide at hv
      rw [hu] at hv
      obtain ⟨cs,rfl,hsz,_⟩:=hv
      have hc:(Value.agg cs).cells.toList=cs.toList:=rfl
      rw [hc] at hf
      obtain ⟨h1,h2⟩:=vk (base:=0) n (ps:=p) hg.1 (by simpa using hsz) hf
      refine ⟨h1,?_⟩
      unfold uE
      rw [hu]
      exact h2.aggV
    · cases hs
  | false =>
    have hc1:P.cellsOf t=1:=by
      rcases hg.2 with h | h
      · rw [hs] at h; cases h
      · exact Nat.eq_of_beq_eq_true h
    have hone:v.cells.toList=[v]:=by
      have hns:∀ fs,P.underlying t≠some (.struct fs):=fun fs he=>by unfold o6 at hs; rw [he] at hs; cases hs
      have hgt:=hg.1
      cases v with
      | agg cs =>
        exfalso
        cases n with
        | zero=>cases hgt
        | succ n =>
          unfold uD at hgt
          unfold Value.okWide at hv
          split at hgt
          · rename_i hu; rw [hu] at hv; simp [Cell.okWide,Cell.ok,hu] at hv
          · rename_i k hu; rw [hu] at hv; simp [Cell.okWide,Cell.ok,hu] at hv
          · rename_i hu; rw [hu] at hv; simp [Cell.okWide,Cell.ok,hu] at hv
          · rename_i e hu; rw [hu] at hv; simp [Cell.okWide,Cell.ok,hu] at hv
          · rename_i fs hu; exact hns fs hu
          · cases hgt
      | _=>rfl
    rw [hone] at hf
    obtain ⟨h1,h2⟩:=vk (base:=0) n (ps:=p) hg.1 (by rw [hc1]; rfl) hf
    refine ⟨h1,?_⟩
    have hav:uE P n t d=(iy P n t d).headD .bad:=by
      unfold uE
      unfold o6 at hs
      split at hs
      · cases hs
      · rfl
    rw [hav]
    cases he:iy P n t d with
    | nil=>exact .bad _ _
    | cons c cs =>
      rw [he] at h2
      exact h2.2 0 c v rfl rfl
theorem DC {n base:Nat}:∀ {ts:List TypeId} {vs:List Value} {ds:List (DataW H)} {p:List MemPlace},(ts.all (Dz P n))=true→(∀ (j:Nat) (t:TypeId) (v:Value),ts[j]?=some t→vs[j]?=some v→Value.okWide P W .any base t v) →
    DataW.TrodAll enc P W 0 (fun _=>true) true ts vs ds p→ds.length=ts.length∧((ts.zip ds).all fun x=>dE P n x.1 x.2)=true∧cb (uX W) ((ts.zip ds).map fun x=>uE P n x.1 x.2) vs
  | [],[],[],_,_,_,_=>⟨rfl,rfl,.nil _⟩
  | t::ts,v::vs,d::ds,_,hg,hv,h=>by
    obtain ⟨p,q,h1,h2,_⟩:=h
    simp only [List.all_cons,Bool.and_eq_true] at hg
    obtain ⟨h3,h4⟩:=IY hg.1 (hv 0 t v rfl rfl) h1
    obtain ⟨h5,h6,h7⟩:=DC hg.2 (fun j t v e1 e2=>hv (j + 1) t v (by simpa using e1) (by simpa using e2)) h2
    exact ⟨by simp [h5],by simp [h3,h6],.cons h4 h7⟩
  | [],[],_::_,_,_,_,h=>by cases h
  | [],_::_,_,_,_,_,h=>by cases h
  | _::_,[],_,_,_,_,h=>by cases h
  | _::_,_::_,[],_,_,_,h=>by cases h
theorem zd {sp:Nat→Bool} (hl:laidOutB P=true):∀ {ts:List TypeId} {vs:List Value} {ds:List (DataW H)} {p:List MemPlace},(ts.all fun t=>P.readableRec t&&decide (t<P.types.size))=true →
    DataW.TrodAll enc P W 0 (fun _=>true) true ts vs ds p→Below W.heap.size W W'→(∀ x∈p,x.block<W.heap.size)→(∀ x∈p,sp x.block=true)→DataW.TrodAll enc P W' 0 sp true ts vs ds p
  | [],[],[],_,_,h,_,_,_=>h
  | t::ts,v::vs,d::ds,_,hg,h,hb,hlt,hsp=>by
    obtain ⟨p,q,h1,h2,rfl⟩:=h
    simp only [List.all_cons,Bool.and_eq_true,decide_eq_true_eq] at hg
    refine ⟨p,q,Go.WideElems.Trod_stays hl hg.1.1 hg.1.2 h1 (fun x hx=>hb.same (hlt x (List.mem_append.2 (.inl hx)))) (fun x hx=>hsp x (List.mem_append.2 (.inl hx))),?_,rfl⟩
    exact zd hl hg.2 h2 hb (fun x hx=>hlt x (List.mem_append.2 (.inr hx))) (fun x hx=>hsp x (List.mem_append.2 (.inr hx)))
  | [],[],_::_,_,_,h,_,_,_=>by cases h
  | [],_::_,_,_,_,h,_,_,_=>by cases h
  | _::_,[],_,_,_,h,_,_,_=>by cases h
  | _::_,_::_,[],_,_,h,_,_,_=>by cases h
end
end A
end Go.Proofs.Ytaiokpalfdbnnaa
