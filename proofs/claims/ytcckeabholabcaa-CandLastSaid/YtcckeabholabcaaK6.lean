/- Orders that are open; contracts; arguments read as data. Nothing is claimed here of the program. -/
import Derived.Test.YtcckeabholabcaaK5
import Derived.Still
import Derived.WalkKit
import Derived.ProofKit
import Derived.OpenShut
import Derived.LoopNIn
import Derived.DataReads
import Derived.Carry
import Derived.WideKeyArgs
namespace Go.Proofs.Ytcckeabholabcaa
namespace A
open Go
theorem k8:∀ {xs:List (Nat×TypeId)} {S:St} {X:Prop},jT xs S X→X∧∀ X',X'→jT xs S X'
  | [],_,_,h=>⟨h,fun _ h=>h⟩
  | (d,e)::xs,S,X,h=>by
    obtain ⟨a,h1,h2⟩:=cr.1 h
    split at h2
    · rename_i d' i j
      obtain ⟨hb,h2⟩:=ab h2
      obtain ⟨h3,h4⟩:=k8 h2
      refine ⟨h3,fun X' h=>cr.2 ⟨_,h1,?_⟩⟩
      exact al hb (h4 X' h)
    · exact False.elim h2
theorem fw {C:Ctx} (hC:fV C) {pl:bV} {ops:Array Oper} {i:Nat} {S:St}:aw (vD C pl ops i S):=by
  show aw (fun K:St→Prop=>vD C pl ops i S K)
  unfold vD
  split
  · exact aw.failN
  · exact Dn hC
theorem Ce {S2 S1:St} {X:(St→Prop)→Prop} (h:aw X):aw (fun K=>qK S2 S1 (X K)):=by
  unfold qK
  split
  · exact h
  · exact fun K hk=>by
      obtain ⟨r,h1,h2⟩:=h K hk.2
      exact ⟨r,h1,fun K' hk'=>⟨hk.1,h2 K' hk'⟩⟩
theorem yT {go:Nat→(St→Prop)→Prop} (hg:∀ i,aw (go i)):∀ (is:List Nat) (S1:St),aw (fun K:St→Prop=>z7 go is S1 (K S1))
  | [],S1=>aw.ret S1
  | i::is,S1=>by
    show aw (fun K:St→Prop=>go i fun S2=>qK S2 S1 (z7 go is S1 (K S1)))
    exact aw.bind (hg i) (fun S2=>Ce (yT hg is S1))
theorem fe {C:Ctx} (hC:fV C) {pl:bV} {ops:Array Oper} {ws:List Nat}:∀ (n:Nat) (listed:Array Bool) (S:St),aw (i8 C pl ops ws n listed S)
  | 0,listed,S=>by
    show aw (fun K:St→Prop=>i8 C pl ops ws 0 listed S K)
    unfold i8
    split
    · exact aw.ret S
    · exact aw.failN
  | n + 1,listed,S=>by
    show aw (fun K:St→Prop=>i8 C pl ops ws (n + 1) listed S K)
    unfold i8
    split
    · exact aw.ret S
    · split
      · exact aw.bind (fw hC) (fun S'=>fe hC n _ S')
      · refine aw.bind (fw hC) (fun S'=>aw.bind (fe hC n _ S') (fun S1=>?_))
        exact yT (fun i=>aw.bind (fw hC) (fun S'=>fe hC n _ S')) _ S1
theorem yU {C:Ctx} (hC:fV C) {pl:bV} {ops:Array Oper} {ws:List Nat}:∀ (n:Nat) (listed:Array Bool) (S:St),aw (rv C pl ops ws n listed S)
  | 0,listed,S=>fe (pl:=pl) (ws:=ws) hC 0 listed S
  | n + 1,listed,S=>by
    show aw (fun K:St→Prop=>rv C pl ops ws (n + 1) listed S K)
    unfold rv
    split
    · exact aw.bind (fw hC) (fun S'=>yU hC n _ S')
    · exact fe hC _ _ _
theorem tj {C:Ctx} (hC:fV C) {pl:bV} {ops:Array Oper} {S:St}:aw (uV C pl ops S):=by
  show aw (fun K:St→Prop=>uV C pl ops S K)
  unfold uV
  refine aw.chk ?_
  split
  · exact fe hC _ _ _
  · exact yU hC _ _ _
theorem qu {C:Ctx} (hC:fV C) {pl:bV}:∀ (c:Code) {S:St},ar (gi C pl c S):=by
  intro c
  induction c with
  | skip=>exact ar.ret Ex.nrm _
  | region id ops draw =>
    intro S
    cases draw with
    | false =>
      show ar (fun (K:Ex→St→Prop)=>p_ C pl ops ops.toList S fun S'=>jp pl id S' fun S''=>K .nrm S'')
      exact aw.bind2 (j5 hC _ _) (fun S'=>aw.bind2 ni (fun S''=>ar.ret Ex.nrm S''))
    | true =>
      show ar (fun (K:Ex→St→Prop)=>bO (qL pl ops) (uW C.P (cy ops.toList) S fun S1=>uV C pl ops S1 fun S'=>jT (cy ops.toList) S' (jp pl id S' fun S''=>K .nrm S'')))
      refine ar.chk (aw.bind2 ti (fun S1=>aw.bind2 (tj hC) (fun S'=>?_)))
      intro K h
      obtain ⟨h1,h2⟩:=k8 h
      obtain ⟨S'',h3,h4⟩:=ni _ h1
      exact ⟨_,_,h3,fun K' hk=>h2 _ (h4 _ hk)⟩
  | seq x y ihx ihy =>
    intro S
    show ar (fun (K:Ex→St→Prop)=>gi C pl x S fun e S'=>match e with
      | .nrm=>gi C pl y S' K
      | .ex i=>K (.ex i) S'
      | .ret=>K .ret S')
    refine ar.bind2 ihx (fun e S'=>?_)
    cases e with
    | nrm=>exact ihy
    | ex i=>exact ar.ret _ _
    | ret=>exact ar.ret _ _
  | cond c x y ihx ihy =>
    intro S
    show ar (fun (K:Ex→St→Prop)=>mh c S fun b S'=>match b with
      | true=>gi C pl x S' K
      | false=>gi C pl y S' K)
    refine ar.bind2 Ao (fun b S'=>?_)
    cases b with
    | true=>exact ihx
    | false=>exact ihy
  | block id c ih =>
    intro S
    show ar (fun (K:Ex→St→Prop)=>gi C pl c S fun e S'=>match e with
      | .ex i=>match Nat.beq i id with | true=>K .nrm S' | false=>K (.ex i) S'
      | .nrm=>K .nrm S'
      | .ret=>K .ret S')
    refine ar.bind2 ih (fun e S'=>?_)
    cases e with
    | nrm=>exact ar.ret _ _
    | ret=>exact ar.ret _ _
    | ex i =>
      show ar (fun (K:Ex→St→Prop)=>match Nat.beq i id with | true=>K .nrm S' | false=>K (.ex i) S')
      split
      · exact ar.ret _ _
      · exact ar.ret _ _
  | loop c ih=>exact hC.loop _ _ _
  | exit id=>exact ar.ret (Ex.ex id) _
  | ret=>exact ar.ret Ex.ret _
  | _=>exact fun K h=>False.elim h
theorem tk {P:Program} {S:St}:∀ {rs:List ResultVar},aw (uX P S rs)
  | []=>aw.ret _
  | .tmp t::rs=>by
    show aw (fun K=>nS S.t t fun a=>uX P S rs fun as=>K (a::as))
    exact aw.bind gn (fun a=>aw.bind tk (fun as=>aw.ret (a::as)))
  | .cell c t::rs=>by
    show aw (fun K=>nS S.t c fun p=>CZ S p fun row j=>hP P t row j fun x=>uX P S rs fun as=>K (x::as))
    exact aw.bind gn (fun a=>ar.bind rO (fun row j=>aw.bind dm (fun x=>aw.bind tk (fun as=>aw.ret (x::as)))))
theorem Do {as:List AV}:aw (yj as):=by
  unfold yj
  split <;> exact aw.ret _
theorem wa {C:Ctx} (hC:fV C) {f:Nat} {args:List AV} {o:List Ob}:ar (qM C f args o):=by
  show ar (fun K:AV→St→Prop=>qM C f args o K)
  have e:(fun K:AV→St→Prop=>qM C f args o K)=fun K=>su C f args o K:=by funext K; exact propext v9
  rw [e]
  unfold su
  split
  · rename_i fn _
    have resDet:∀ {S:St},ar (fun K:AV→St→Prop=>uX C.P S fn.results.toList fun rs=>yj rs fun r=>K r S):=fun {S}=>aw.bind2 tk (fun rs=>aw.bind2 Do (fun r=>ar.ret r S))
    split
    · have e2:∀ (p:bV) (k:bV→(AV→St→Prop)→Prop),(fun K=>z8 p fun pl=>k pl K)=fun K=>k p K:=fun p k=>by funext K; exact propext s7
      rw [e2]
      refine ar.bind2 (qu hC _) (fun e S=>?_)
      cases e with
      | ex i=>exact ar.failN
      | nrm=>exact resDet
      | ret=>exact resDet
    · exact ar.failN
  · exact ar.failN
theorem qv {C:Ctx} (hC:fV C) {f:Nat} {args:List AV}:aw (qN C f args):=ar.bind (wa hC) (fun _ _=>j3)
theorem tl {C:Ctx} (hC:fV C) {f:Nat} {args:List AV} {o:List Ob}:ar (mz C f args o):=by
  show ar (fun (K:AV→List Ob→Prop)=>qM C f args o fun r S=>bO (rK 4 r&&Nat.beq S.b o.length) (K r S.o))
  exact ar.bind2 (wa hC) (fun _ _=>ar.chk (ar.ret _ _))
structure Ho (cfg:nW):Prop where
  sound:∀ f args o K,cfg.xc f args o K→ku cfg.P f args o K
  det:∀ f args o,ar (cfg.xc f args o)
  pure:∀ f args r,cfg.xq f args=some r→Ac cfg.P f args r
theorem Ho.none {cfg:nW} (h:cfg.xc=fun _ _ _ _=>False) (hq:cfg.xq=fun _ _=>none):Ho cfg:=⟨fun f args o K hk=>(by rw [h] at hk; exact hk.elim),fun f args o=>(by rw [h]; exact ar.failN (n:=0)),fun f args r e=>(by rw [hq] at e; cases e)⟩
theorem k9 {cfg:nW} (hX:Ho cfg):∀ n,fV (fG cfg n)
  | 0=>⟨fun _ _=>aw.failN (n:=123),fun _ _ _=>ar.failN (n:=124),fun _ _ _=>ar.failN (n:=125)⟩
  | n + 1=>⟨fun f args=>by
      show aw fun K=>match cfg.xq f args with | some r=>K r | none=>qN (fG cfg n) f args K
      cases cfg.xq f args with
      | some r=>exact aw.ret r
      | none=>exact qv (k9 hX n),fun f args o=>by
      show ar fun K=>match cfg.xs f with | true=>cfg.xc f args o K | false=>mz (fG cfg n) f args o K
      cases cfg.xs f with
      | true=>exact hX.det _ _ _
      | false=>exact tl (k9 hX n),fun pl c S=>by
      have e0:(fun (K:Ex→St→Prop)=>sr (fG cfg n) fun C=>gi C pl c S fun e S'=>match e with
        | .nrm=>C.loop pl c S' K
        | .ex i=>K (.ex i) S'
        | .ret=>K .ret S')=fun K=>gi (fG cfg n) pl c S fun e S'=>match e with
        | .nrm=>(fG cfg n).loop pl c S' K
        | .ex i=>K (.ex i) S'
        | .ret=>K .ret S':=by funext K; exact propext oy
      show ar (fun (K:Ex→St→Prop)=>sr (fG cfg n) fun C=>gi C pl c S fun e S'=>match e with
        | .nrm=>C.loop pl c S' K
        | .ex i=>K (.ex i) S'
        | .ret=>K .ret S')
      rw [e0]
      refine ar.bind2 (qu (k9 hX n) c) (fun e S'=>?_)
      cases e with
      | nrm=>exact (k9 hX n).loop _ _ _
      | ex i=>exact ar.ret _ _
      | ret=>exact ar.ret _ _⟩
theorem Ar {cfg:nW} (hX:Ho cfg) (n:Nat):s8 (fG cfg n):=fun f args K h=>by
  obtain ⟨r,h1,h2⟩:=qv (k9 hX n) K h
  exact ⟨r,h1,h2 _ rfl⟩
def ir (S:St) (dst:Option Tmp) (v:AV) (m:Option St):St :=
  jU (match m with | none=>S | some M=>e_ S M) dst v
def jq (S S2:St):Prop:=S2.l=S.l∧S2.o=S.o∧S2.b=S.b
theorem jq.refl (S:St):jq S S:=⟨rfl,rfl,rfl⟩
theorem jq.symm {S S2:St} (h:jq S S2):jq S2 S:=⟨h.1.symm,h.2.1.symm,h.2.2.symm⟩
theorem jq.trans {S S2 S3:St} (h:jq S S2) (k:jq S2 S3):jq S S3:=⟨k.1.trans h.1,k.2.1.trans h.2.1,k.2.2.trans h.2.2⟩
def mQ (xs:List Operand) (S S2:St):Prop:=∀ d,Operand.tmp d∈xs→S2.t[d]?=S.t[d]?
theorem As {S S2:St} {x:Operand} {k:AV→Prop} (h:cY S x k) (ha:∀ d,x=.tmp d→S2.t[d]?=S.t[d]?):cY S2 x k:=by
  unfold cY at *
  split at h
  · rename_i d
    obtain ⟨c,hc,hk⟩:=cr.1 h
    exact cr.2 ⟨c,by rw [ha d rfl]; exact hc,hk⟩
  · exact h
  · exact h
  · exact h
theorem gT {S S2:St}:∀ {xs:List Operand} {k:List AV→Prop},dK S xs k→mQ xs S S2→dK S2 xs k
  | [],_,h,_=>h
  | x::xs,k,h,ha=>by
    obtain ⟨c,h1,h2⟩:=ct _ h
    have hx:cY S2 x fun a=>dK S2 xs fun as=>k (a::as):=by
      refine As (S:=S) (h2 _ ?_) (fun d e=>ha d (by rw [← e]; exact List.mem_cons_self))
      exact gT h1 (fun d hd=>ha d (List.mem_cons_of_mem _ hd))
    exact hx
def Looks (site:Option Nat) (S S2:St):Prop :=
  match site with
  | some r=>aG S2.l r=aG S.l r
  | none=>S2.o=S.o
def pD (site:Option Nat) (S M:St):Prop :=
  match site with
  | some r'=>M.o=S.o∧∀ r,r≠r'→aG M.l r=aG S.l r
  | none=>M.l=S.l
theorem Looks.of {site:Option Nat} {S S2:St} (h:jq S S2):Looks site S S2:=by
  cases site with
  | some r=>show aG S2.l r=_; rw [h.1]
  | none=>exact h.2.1
theorem Looks.symm {site:Option Nat} {S S2:St} (h:Looks site S S2):Looks site S2 S:=by
  cases site with
  | some r=>exact Eq.symm h
  | none=>exact Eq.symm h
theorem Looks.trans {site:Option Nat} {S S2 S3:St} (h:Looks site S S2) (k:Looks site S2 S3):Looks site S S3:=by
  cases site with
  | some r=>exact Eq.trans k h
  | none=>exact Eq.trans k h
def rC (pl:bV) (ops:Array Oper) (o:Oper) (S S2:St):Prop :=
  (fp pl o=1→Looks (fq pl ops o) S S2)∧(fp pl o=2→jq S S2)
theorem rC.of {pl:bV} {ops:Array Oper} {o:Oper} {S S2:St} (h:jq S S2):rC pl ops o S S2:=⟨fun _=>.of h,fun _=>h⟩
def rD (pl:bV) (ops:Array Oper) (o:Oper) (S:St) (m:Option St):Prop :=
  (fp pl o≠2→m=none)∧∀ M,m=some M→pD (fq pl ops o) S M
def Is (C:Ctx) (pl:bV) (ops:Array Oper) (o:Oper) (S:St) (v:AV) (m:Option St):Prop :=
  rD pl ops o S m∧∀ S2,mQ o.op.operands.toList S S2→rC pl ops o S S2→∀ K2:St→Prop,K2 (ir S2 o.dst v m)→nV C pl ops o S2 K2
theorem yV {S S2:St} (h:jq S S2):da S2=da S:=by
  unfold da
  rw [h.1,h.2.1,h.2.2]
theorem Au {o:Oper} {t:Nat} (h:addrOf o=some t):Operand.tmp t∈o.op.operands.toList:=by
  unfold addrOf at h
  split at h
  · rename_i ty x ho
    cases h
    rw [ho]
    simp [Op.operands]
  · rename_i ty x y ho
    cases h
    rw [ho]
    simp [Op.operands]
  · cases h
theorem xw {pl:bV} {ops:Array Oper} {o:Oper} {S S2:St} (ha:mQ o.op.operands.toList S S2):iF pl ops o S2=iF pl ops o S:=by
  unfold iF
  cases ht:addrOf o with
  | none=>rfl
  | some t =>
    dsimp only
    rw [ha t (Au ht)]
theorem oJ {pl:bV} {ops:Array Oper} {o:Oper} {S:St} {t:Nat} (h:iF pl ops o S=true) (ht:addrOf o=some t):∃ c,S.t[t]?=some c∧mq c (fq pl ops o)=true:=by
  unfold iF at h
  rw [ht] at h
  dsimp only at h
  split at h
  · rename_i c hc
    exact ⟨c,hc,h⟩
  · cases h
theorem mR {c:AV} {r:Nat} (h:mq c (some r)=true):∃ i j,c=.ptr (.L r) i j:=by
  unfold mq at h
  split at h
  · rename_i d i j r' hr
    cases hr
    have:=Nat.eq_of_beq_eq_true h
    subst this
    exact ⟨i,j,rfl⟩
  · rename_i hr; cases hr
  · rename_i hr; cases hr
  · cases h
theorem q7 {c:AV} (h:mq c none=true):(∃ id i j,c=.ptr (.O id) i j)∨∃ row j,c=.fptr row j:=by
  unfold mq at h
  split at h
  · rename_i hr; cases hr
  · rename_i id i j _; exact .inl ⟨id,i,j,rfl⟩
  · rename_i row j _; exact .inr ⟨row,j,rfl⟩
  · cases h
theorem Dp {C:Ctx} {o:Oper} {ty:TypeId} {x:Operand} (ho:o.op=.load ty x) {r i j:Nat} {M M2:St} (h:aG M2.l r=aG M.l r) {k:AV→Prop} (hk:nt C o [.ptr (.L r) i j] M k):nt C o [.ptr (.L r) i j] M2 k:=by
  unfold nt at hk ⊢
  rw [ho] at hk ⊢
  unfold CZ uT at hk ⊢
  dsimp only at hk ⊢
  rw [h]
  exact hk
theorem wc {C:Ctx} {o:Oper} {ty:TypeId} {x:Operand} (ho:o.op=.load ty x) {c:AV} (hc:mq c none=true) {M M2:St} (h:M2.o=M.o) {k:AV→Prop} (hk:nt C o [c] M k):nt C o [c] M2 k:=by
  unfold nt at hk ⊢
  rw [ho] at hk ⊢
  rcases q7 hc with ⟨id,i,j,rfl⟩ | ⟨row,j,rfl⟩
  · unfold CZ uT at hk ⊢
    dsimp only at hk ⊢
    rw [h]
    exact hk
  · exact hk
theorem EP {size:Nat} {x:AV} {S S2:St} (h:S2.o=S.o) {k:Bool→List (List AV)→Prop}:iY size S x k→iY size S2 x k:=by
  obtain ⟨t,l,oo,b⟩:=S
  obtain ⟨t2,l2,oo2,b2⟩:=S2
  have h':oo2=oo:=h
  subst h'
  unfold iY
  split <;> exact fun h=>h
theorem yW {P:Program} {src dst:TypeId} {x:AV} {S S2:St} (h:S2.o=S.o) {k:AV→Prop}:fj P src dst x S k→fj P src dst x S2 k:=by
  unfold fj
  split
  · split
    · intro hk
      obtain ⟨h1,h2⟩:=ab hk
      exact al h1 (EP h h2)
    · exact fun h=>h
  · exact fun h=>h
theorem Hp {C:Ctx} {o:Oper} (ho:∀ ty x,o.op≠.load ty x) {vs:List AV} {M M2:St} (h:M2.o=M.o) {k:AV→Prop}:nt C o vs M k→nt C o vs M2 k:=by
  obtain ⟨t,l,oo,b⟩:=M
  obtain ⟨t2,l2,oo2,b2⟩:=M2
  have h':oo2=oo:=h
  subst h'
  unfold nt
  split
  all_goals first
    | exact fun h=>h
    | exact yW rfl
    | (exfalso; rename_i h1; exact ho _ _ h1)
    | (exfalso; rename_i h1 _; exact ho _ _ h1)
theorem tm {S:St} {g:Nat} {xs:List Operand} {k:List AV→Prop} (h:dK S (.global g::xs) k):∃ row,dK S xs fun as=>k (.fptr row 0::as):=by
  have h':cY S (.global g) fun a=>dK S xs fun as=>k (a::as):=h
  cases hg:F_ g with
  | none=>simp only [cY,hg] at h'; exact False.elim h'
  | some row=>simp only [cY,hg] at h'; exact ⟨row,h'⟩
theorem wd {S:St} {t:Nat} {k:List AV→Prop} {a:AV} (ha:S.t[t]?=some a) (h:dK S [.tmp t] k):k [a]:=by
  obtain ⟨c,hc,h⟩:=cr.1 h
  rw [ha] at hc
  cases hc
  exact h
theorem wh {S:St} {t:Nat} {y:Operand} {k:List AV→Prop} {a:AV} (ha:S.t[t]?=some a) (h:dK S [.tmp t,y] k):∃ b,k [a,b]:=by
  obtain ⟨c,hc,h⟩:=cr.1 h
  rw [ha] at hc
  cases hc
  obtain ⟨b,h1,_⟩:=ct _ h
  exact ⟨b,h1⟩
theorem Dq {C:Ctx} {o:Oper} {c:AV} {site:Option Nat} {y:AV} {M:St} {k:AV→St→Prop} (hs:mq c site=true) (h:vB C o [c,y] M k):vB C o [c,y] M fun v M'=>k v M'∧pD site M M':=by
  obtain ⟨v,M',h1,h2⟩:=ky _ h
  refine h2 _ ⟨h1,?_⟩
  have h3:=h2 (fun _ M''=>M''=M') rfl
  unfold vB at h3
  split at h3
  · rename_i ty X Y p z ho e
    cases e
    obtain ⟨cs,h4,_⟩:=cn _ h3
    split at h4
    · obtain ⟨_,h4⟩:=ab h4
      cases site with
      | some r' =>
        obtain ⟨i,j,rfl⟩:=mR hs
        unfold kG at h4
        dsimp only at h4
        split at h4
        · rename_i row hrow
          split at h4
          · obtain ⟨_,h4⟩:=ab h4
            rw [dS,ib] at h4
            subst h4
            refine ⟨rfl,fun r hr=>?_⟩
            show aG (oZ M.l r' _) r=_
            rw [iI hrow,if_neg (fun e=>hr e.symm)]
          · exact False.elim h4
        · exact False.elim h4
      | none =>
        rcases q7 hs with ⟨id,i,j,rfl⟩ | ⟨row,j,rfl⟩
        · unfold kG at h4
          dsimp only at h4
          split at h4
          · split at h4
            · obtain ⟨_,h4⟩:=ab h4
              rw [dS,az] at h4
              subst h4
              rfl
            · exact False.elim h4
          · exact False.elim h4
        · exact False.elim h4
    · exact False.elim h4
  · exact False.elim h3
theorem tn {P:Program} {t:TypeId} {l c:AV} {M:St} {k:St→AV→Prop} (h:cj P t l c M k):cj P t l c M fun M' r=>k M' r∧M'.l=M.l:=by
  obtain ⟨M',r,h1,h2⟩:=fI _ h
  refine h2 _ ⟨h1,?_⟩
  have h3:=h2 (fun M'' _=>M''=M') rfl
  unfold cj at h3
  split at h3
  · split at h3
    · obtain ⟨n,h4,_⟩:=bf _ h3
      obtain ⟨m,h5,_⟩:=bf _ h4
      obtain ⟨_,h5⟩:=ab h5
      obtain ⟨z,h6,_⟩:=aI _ h5
      obtain ⟨_,h6⟩:=ab h6
      rw [az] at h6
      rw [← h6]
    · exact False.elim h3
  · exact False.elim h3
theorem tp {M:St} {id i:Nat} {k:AV→St→Prop} (h:fa M id i k) (hk:∀ v M',M'.l=M.l→k v M'→False):False:=by
  unfold fa at h
  split at h
  · split at h
    · exact hk _ _ (by rfl) h
    · rw [az] at h
      exact hk _ _ (by rfl) h
    · exact h
  · exact h
theorem Av {P:Program} {t:TypeId} {same:Bool} {M:St} {id i:Nat} {k:AV→St→Prop} (h:h_ P t same M id i k) (hk:∀ v M',M'.l=M.l→k v M'→False):False:=by
  unfold h_ at h
  split at h
  · split at h
    · obtain ⟨_,h⟩:=ab h
      obtain ⟨r,h,_⟩:=dm _ h
      exact hk _ _ (by rfl) h
    · exact h
  · refine tp h (fun v M' e h=>?_)
    obtain ⟨r,h,_⟩:=dm _ h
    exact hk _ _ e h
theorem yX {P:Program} {t:TypeId} {M:St} {id i:Nat} {v:AV} {K:St→Prop} (h:fR P t M id i v K) (hk:∀ M',M'.l=M.l→K M'→False):False:=by
  unfold fR at h
  split at h
  · obtain ⟨_,h⟩:=ab h
    rw [az] at h
    exact hk _ (by rfl) h
  · exact h
theorem Aw {P:Program} {t:TypeId} {j:Nat} {l c:AV} {M:St} {k:AV→St→Prop} (h:gh P j t l c M k) (hk:∀ v M',M'.l=M.l→k v M'→False):False:=by
  unfold gh at h
  split at h
  · split at h
    · split at h
      · obtain ⟨n,h,_⟩:=bf _ h
        obtain ⟨m,h,_⟩:=bf _ h
        obtain ⟨_,h⟩:=ab h
        obtain ⟨z,h,_⟩:=aI _ h
        split at h
        · obtain ⟨_,h,_⟩:=lJ _ h
          exact hk _ _ (by rfl) h
        · exact h
      · exact h
    · exact h
  · exact h
theorem ve {P:Program} {t:TypeId} {M:St} {k:AV→St→Prop} (h:fF P t M k) (hk:∀ v M',M'.l=M.l→k v M'→False):False:=by
  unfold fF at h
  split at h
  · split at h
    · split at h
      · obtain ⟨_,h⟩:=ab h
        rw [az] at h
        exact hk _ _ (by rfl) h
      · exact h
    · exact h
  · exact h
theorem Ax {P:Program} {t:TypeId} {m key:AV} {ok:Bool} {M:St} {k:AV→St→Prop} (h:ia P t m key ok M k) (hk:∀ v M',M'.l=M.l→k v M'→False):False:=by
  unfold ia at h
  split at h
  · split at h
    · split at h
      · obtain ⟨x,r,h,_⟩:=dq _ h
        split at h
        · refine tp h (fun v M' e h=>?_)
          obtain ⟨r,h,_⟩:=fk _ h
          exact hk _ _ e h
        · obtain ⟨r,h,_⟩:=eC _ h
          exact hk _ _ (by rfl) h
      · exact h
    · exact h
  · exact h
theorem wi {P:Program} {t:TypeId} {m key x:AV} {M:St} {K:St→Prop} (h:iQ P t m key x M K) (hk:∀ M',M'.l=M.l→K M'→False):False:=by
  unfold iQ at h
  split at h
  · split at h
    · split at h
      · obtain ⟨_,h⟩:=ab h
        obtain ⟨x,r,h,_⟩:=dq _ h
        obtain ⟨_,h⟩:=ab h
        split at h
        · obtain ⟨_,h⟩:=ab h
          rw [az] at h
          exact hk _ (by rfl) h
        · split at h
          · rw [az] at h
            exact hk _ (by rfl) h
          · exact h
      · exact h
    · exact h
  · exact h
theorem yY {M:St} {x:AV} {X:Nat→Nat→Prop} (h:iE M x X) (hk:∀ id i,X id i→False):False:=by
  unfold iE at h
  split at h
  · split at h
    · exact hk _ _ h
    · exact h
  · exact h
theorem Gk {P:Program} {pl:bV} {o:Oper} {vs:List AV} {M:St} {k:AV→St→Prop} (h:kh P pl o vs M k) (hk:∀ v M',M'.l=M.l→k v M'→False):False:=by
  unfold kh at h
  split at h
  · exact yY h (fun _ _ h=>Av h hk)
  · exact yY h (fun _ _ h=>yX h (fun M' e h=>hk _ _ e h))
  · exact Aw h hk
  · exact ve h hk
  · exact Ax h hk
  · exact wi h (fun M' e h=>hk _ _ e h)
  · exact wi h (fun M' e h=>hk _ _ e h)
  · exact h
theorem Cf {P:Program} {pl:bV} {o:Oper} {vs:List AV} {M:St} {k:AV→St→Prop} (h:kh P pl o vs M k):kh P pl o vs M fun v M'=>k v M'∧M'.l=M.l:=by
  obtain ⟨v,M',h1,h2⟩:=tf _ h
  refine h2 _ ⟨h1,?_⟩
  by_cases e:M'.l=M.l
  · exact e
  · exact (Gk (h2 (fun _ M''=>M''.l≠M.l) e) (fun _ _ e h=>h e)).elim
theorem Dr {P:Program} {pl:bV} {o:Oper} {x:AV} {vs:List AV} {M:St} {k:AV→St→Prop} (h:kh P pl o (x::vs) M k) (ht:(addrOf o).isSome=true):∀ d i j,x≠.ptr (.L d) i j:=by
  intro d i j e
  subst e
  unfold kh at h
  unfold addrOf at ht
  split at h
  · rename_i he
    cases he
    exact h
  · rename_i he
    cases he
    exact h
  · rename_i ho _
    rw [ho] at ht
    cases ht
  · rename_i he
    cases he
  · rename_i ho _
    rw [ho] at ht
    cases ht
  · rename_i ho _
    rw [ho] at ht
    cases ht
  · rename_i ho _
    rw [ho] at ht
    cases ht
  · exact h
def wj (pl:bV) (o:Oper):Prop:=((∃ t X Y,o.op=.makeSlice t X Y)∨∃ c,o.op=.call c)∨fE pl o=true
theorem wl {pl:bV} {o:Oper} (h:¬ wj pl o):fE pl o=false:=by
  cases e:fE pl o with
  | false=>rfl
  | true=>exact absurd (.inr e) h
theorem wm {pl:bV} {o:Oper} (h:fp pl o≠2):fE pl o=false:=by
  cases e:fE pl o with
  | false=>rfl
  | true=>exact absurd (by unfold fp; rw [e]) h
theorem oK {C:Ctx} {pl:bV} {o:Oper} {vs:List AV} {M:St} {k:AV→St→Prop} (h:¬ wj pl o):lr C pl o vs M k=vB C o vs M k:=by
  unfold lr
  rw [wl h]
  dsimp only
  unfold kq
  split
  · rename_i t X Y l c ho
    exact absurd (.inl (.inl ⟨t,X,Y,ho⟩)) h
  · rename_i c _ _ _ _ ho
    exact absurd (.inl (.inr ⟨c,ho⟩)) h
  · rfl
theorem Cg {C:Ctx} (hC:fV C) {pl:bV} {o:Oper} {vs:List AV} {M:St} {k:AV→St→Prop} (hm:wj pl o) (h:lr C pl o vs M k):lr C pl o vs M fun v M'=>k v M'∧M'.l=M.l:=by
  unfold lr at h ⊢
  cases e:fE pl o with
  | true =>
    rw [e] at h
    exact Cf h
  | false =>
    rw [e] at h
    have hm:(∃ t X Y,o.op=.makeSlice t X Y)∨∃ c,o.op=.call c:=by
      rcases hm with hm | hm
      · exact hm
      · rw [e] at hm; cases hm
    dsimp only at h ⊢
    unfold kq at h ⊢
    split at h
    · rename_i t' X' Y' l c ho'
      exact tn h
    · split at h
      · obtain ⟨h1,h⟩:=ab h
        refine al h1 ?_
        obtain ⟨r,o',h2,h3⟩:=hC.scall _ _ _ _ h
        refine h3 _ ?_
        obtain ⟨h4,h5⟩:=ab h2
        exact al h4 ⟨h5,rfl⟩
      · exact h.elim
    · exfalso
      unfold vB at h
      split at h
      · rename_i heq x1 x2
        rcases hm with ⟨t,X,Y,ho⟩ | ⟨c,ho⟩ <;> (rw [ho] at heq; cases heq)
      · exact h
theorem Ds {pl:bV} {o:Oper} {ty:TypeId} {x:Operand} (hw:fE pl o=false) (ho:o.op=.load ty x):fp pl o=1:=by
  unfold fp
  rw [hw]
  dsimp only
  unfold vC
  rw [ho]
  dsimp only
  unfold C8
  rw [ho]
theorem Ch {pl:bV} {o:Oper} {ty:TypeId} {x y:Operand} (hw:fE pl o=false) (ho:o.op=.store ty x y):fp pl o=2:=by
  unfold fp
  rw [hw]
  dsimp only
  unfold vC
  rw [ho]
  dsimp only
  unfold C8
  rw [ho]
theorem Ay {C:Ctx} {pl:bV} {ops:Array Oper} {o:Oper} {S:St} {vs:List AV} {k:AV→St→Prop} (hm:wj pl o) (hkey:iF pl ops o S=true) (hget:dK S o.op.operands.toList (fun x=>x=vs)) (h:lr C pl o vs (da S) k):fq pl ops o=none:=by
  cases ht:addrOf o with
  | none=>unfold fq; rw [ht]
  | some t =>
    obtain ⟨c,hc1,hc2⟩:=oJ hkey ht
    cases hs:fq pl ops o with
    | none=>rfl
    | some r =>
      exfalso
      rw [hs] at hc2
      obtain ⟨i,j,rfl⟩:=mR hc2
      have hw:fE pl o=true:=by
        rcases hm with (⟨t',X,Y,ho⟩ | ⟨c,ho⟩) | hm
        · unfold addrOf at ht; rw [ho] at ht; cases ht
        · unfold addrOf at ht; rw [ho] at ht; cases ht
        · exact hm
      unfold lr at h
      rw [hw] at h
      dsimp only at h
      have hx:∃ ys,vs=.ptr (.L r) i j::ys:=by
        unfold addrOf at ht
        split at ht
        · rename_i ty x ho
          cases ht
          have hop:o.op.operands.toList=[.tmp t]:=by rw [ho]; simp [Op.operands]
          rw [hop] at hget
          exact ⟨[],(wd hc1 hget).symm⟩
        · rename_i ty x y ho
          cases ht
          have hop:o.op.operands.toList=[.tmp t,y]:=by rw [ho]; simp [Op.operands]
          rw [hop] at hget
          obtain ⟨b,hb⟩:=wh hc1 hget
          exact ⟨[b],hb.symm⟩
        · cases ht
      obtain ⟨ys,rfl⟩:=hx
      exact Dr h (by rw [ht]; rfl) r i j rfl
theorem Ci {pl:bV} {o:Oper} {t:Nat} (h:addrOf o=some t) (hc:fp pl o=1):∃ ty,o.op=.load ty (.tmp t):=by
  unfold addrOf at h
  split at h
  · rename_i ty x ho
    cases h
    exact ⟨ty,ho⟩
  · rename_i ty x y ho
    rw [Ch (wm (by rw [hc]; decide)) ho] at hc
    cases hc
  · cases h
theorem Az {pl:bV} {o:Oper} {t:Nat} (h:addrOf o=some t) (hw:fE pl o=false) (hc:fp pl o=2):∃ ty y,o.op=.store ty (.tmp t) y:=by
  unfold addrOf at h
  split at h
  · rename_i ty x ho
    rw [Ds hw ho] at hc
    cases hc
  · rename_i ty x y ho
    cases h
    exact ⟨ty,y,ho⟩
  · cases h
theorem Bj {C:Ctx} (hC:fV C) {pl:bV} {ops:Array Oper} {o:Oper} {S:St} {K:St→Prop} (hez:z6 (fp pl o)=true) (h:nV C pl ops o S K):∃ v m,Is C pl ops o S v m∧K (ir S o.dst v m):=by
  obtain ⟨hkey,h⟩:=ab h
  have fin:∀ {S2:St} {K2:St→Prop},mQ o.op.operands.toList S S2→uS C pl o S2 K2→nV C pl ops o S2 K2:=fun ha h=>al (by rw [xw ha]; exact hkey) h
  unfold uS at h
  split at h
  · rename_i hc
    obtain ⟨vs,h1,h2⟩:=bd _ h
    obtain ⟨r,h3,h4⟩:=rP _ h1
    rw [aD] at h3
    refine ⟨r,none,⟨⟨fun _=>rfl,fun M e=>by cases e⟩,fun S2 ha _ K2 hk=>fin ha ?_⟩,h3⟩
    unfold uS
    rw [hc]
    refine gT (S:=S) (h2 (fun vs=>pop C pl o vs fun r=>bN o.dst r S2 K2) (h4 _ ?_)) ha
    rw [aD]
    exact hk
  · rename_i hc
    obtain ⟨vs,h1,h2⟩:=bd _ h
    obtain ⟨r,h3,h4⟩:=rQ hC _ h1
    rw [aD] at h3
    refine ⟨r,none,⟨⟨fun _=>rfl,fun M e=>by cases e⟩,fun S2 ha hm K2 hk=>fin ha ?_⟩,h3⟩
    unfold uS
    rw [hc]
    have h5:=h4 (fun r=>bN o.dst r S2 K2) (by rw [aD]; exact hk)
    have hm1:=hm.1 hc
    refine gT (S:=S) (h2 (fun vs=>nt C o vs (da S2) fun r=>bN o.dst r S2 K2) ?_) ha
    cases ht:addrOf o with
    | some t =>
      obtain ⟨c,hc1,hc2⟩:=oJ hkey ht
      obtain ⟨ty,ho⟩:=Ci ht hc
      have hop:o.op.operands.toList=[.tmp t]:=by rw [ho]; simp [Op.operands]
      have hvs:vs=[c]:=by
        have:=h2 (fun x=>x=vs) rfl
        rw [hop] at this
        exact (wd hc1 this).symm
      subst hvs
      cases hs:fq pl ops o with
      | some r =>
        rw [hs] at hm1 hc2
        obtain ⟨i,j,rfl⟩:=mR hc2
        exact Dp ho (M:=da S) hm1 h5
      | none =>
        rw [hs] at hm1 hc2
        exact wc ho hc2 (M:=da S) hm1 h5
    | none =>
      have hs:fq pl ops o=none:=by unfold fq; rw [ht]
      rw [hs] at hm1
      by_cases hl:∃ ty x,o.op=.load ty x
      · obtain ⟨ty,x,ho⟩:=hl
        have hop:o.op.operands.toList=[x]:=by rw [ho]; simp [Op.operands]
        by_cases hglob:∃ g,x=.global g
        · obtain ⟨g,rfl⟩:=hglob
          have hv:=h2 (fun x=>x=vs) rfl
          rw [hop] at hv
          obtain ⟨row,hv⟩:=tm hv
          have hv':[AV.fptr row 0]=vs:=hv
          subst hv'
          exact wc ho rfl (M:=da S) hm1 h5
        exfalso
        cases x with
        | tmp t=>unfold addrOf at ht; rw [ho] at ht; cases ht
        | const cc =>
          have hv:=h2 (fun x=>x=vs) rfl
          rw [hop] at hv
          have hv':vs=[BU cc]:=by
            have:jO (BU cc) (fun a=>[a]=vs):=hv
            rw [cE] at this
            exact this.symm
          subst hv'
          have h6:=h1
          unfold nt at h6
          rw [ho] at h6
          have h7:CZ (da S) (BU cc) fun row j=>hP C.P ty row j fun r=>bN o.dst r S K:=h6
          have hno:∀ c:Value,(∀ k i j,BU c≠.ptr k i j)∧∀ r j,BU c≠.fptr r j:=by
            intro c
            refine ⟨fun k i j=>?_,fun r j=>?_⟩ <;>
            · unfold BU
              split
              · intro h; cases h
              · unfold r7
                split <;> intro h <;> cases h
          unfold CZ at h7
          split at h7
          · rename_i k i j he; exact (hno cc).1 _ _ _ he
          · rename_i r j he; exact (hno cc).2 _ _ he
          · exact h7
        | func f =>
          have hv:=h2 (fun x=>x=vs) rfl
          rw [hop] at hv
          have hv':[AV.fn f [] []]=vs:=hv
          subst hv'
          have h6:=h1
          unfold nt at h6
          rw [ho] at h6
          exact h6
        | global g=>exact hglob ⟨g,rfl⟩
      · exact Hp (fun ty x he=>hl ⟨ty,x,he⟩) (M:=da S) hm1 h5
  · rename_i hc
    obtain ⟨vs,h1,h2⟩:=bd _ h
    by_cases hmk:wj pl o
    · obtain ⟨r,M,⟨h3,h5⟩,h4⟩:=yR hC _ (Cg hC hmk h1)
      rw [aD] at h3
      refine ⟨r,some M,⟨⟨fun hn=>absurd hc hn,fun M' e=>?_⟩,fun S2 ha hm K2 hk=>fin ha ?_⟩,h3⟩
      · cases e
        rw [Ay hmk hkey (h2 (fun x=>x=vs) rfl) h1]
        exact h5
      · unfold uS
        rw [hc]
        have hm':=yV (hm.2 hc)
        refine gT (S:=S) (h2 (fun vs=>lr C pl o vs (da S2) fun r M=>bN o.dst r (e_ S2 M) K2) ?_) ha
        rw [hm']
        refine h4 _ ?_
        rw [aD]
        exact hk
    rw [oK hmk] at h1
    have hkeep:vB C o vs (da S) fun v M'=>(fun v M=>bN o.dst v (e_ S M) K) v M'∧(∀ t,addrOf o=some t→pD (fq pl ops o) S M'):=by
      cases ht:addrOf o with
      | none =>
        obtain ⟨r,M,h3,h4⟩:=ky _ h1
        exact h4 _ ⟨h3,fun t e=>by cases e⟩
      | some t =>
        obtain ⟨c,hc1,hc2⟩:=oJ hkey ht
        obtain ⟨ty,y,ho⟩:=Az ht (wl hmk) hc
        have hop:o.op.operands.toList=[.tmp t,y]:=by rw [ho]; simp [Op.operands]
        have hvs:∃ b,vs=[c,b]:=by
          have:=h2 (fun x=>x=vs) rfl
          rw [hop] at this
          obtain ⟨b,hb⟩:=wh hc1 this
          exact ⟨b,hb.symm⟩
        obtain ⟨b,rfl⟩:=hvs
        obtain ⟨r,M,h3,h4⟩:=ky _ (Dq hc2 h1)
        exact h4 _ ⟨h3.1,fun t' _=>(show pD (fq pl ops o) (da S) M from h3.2)⟩
    obtain ⟨r,M,⟨h3,h5⟩,h4⟩:=ky _ hkeep
    rw [aD] at h3
    refine ⟨r,some M,⟨⟨fun hn=>absurd hc hn,fun M' e=>?_⟩,fun S2 ha hm K2 hk=>fin ha ?_⟩,h3⟩
    · cases e
      cases ht:addrOf o with
      | some t=>exact h5 t ht
      | none =>
        exfalso
        have h6:=h4 (fun _ _=>True) trivial
        unfold vB at h6
        split at h6
        · rename_i ty X Y p z ho
          cases X with
          | tmp t=>unfold addrOf at ht; rw [ho] at ht; cases ht
          | const cc =>
            have hv:=h2 (fun x=>x=[p,z]) rfl
            have hop:o.op.operands.toList=[.const cc,Y]:=by rw [ho]; simp [Op.operands]
            rw [hop] at hv
            have hv':jO (BU cc) fun a=>cY S Y fun b=>[a,b]=[p,z]:=hv
            rw [cE] at hv'
            obtain ⟨b,hb,_⟩:=ct _ hv'
            cases hb
            obtain ⟨cs,h7,_⟩:=cn _ h6
            have hno:∀ c:Value,∀ k i j,BU c≠.ptr k i j:=by
              intro c k i j
              unfold BU
              split
              · intro h; cases h
              · unfold r7
                split <;> intro h <;> cases h
            split at h7
            · obtain ⟨_,h7⟩:=ab h7
              unfold kG at h7
              split at h7
              · rename_i he; exact hno cc _ _ _ he
              · rename_i he; exact hno cc _ _ _ he
              · exact h7
            · exact h7
          | func f =>
            have hv:=h2 (fun x=>x=[p,z]) rfl
            have hop:o.op.operands.toList=[.func f,Y]:=by rw [ho]; simp [Op.operands]
            rw [hop] at hv
            have hv':cY S Y fun b=>[AV.fn f [] [],b]=[p,z]:=hv
            obtain ⟨b,hb,_⟩:=ct _ hv'
            cases hb
            obtain ⟨cs,h7,_⟩:=cn _ h6
            split at h7
            · obtain ⟨_,h7⟩:=ab h7
              exact h7
            · exact h7
          | global g =>
            have hv:=h2 (fun x=>x=[p,z]) rfl
            have hop:o.op.operands.toList=[.global g,Y]:=by rw [ho]; simp [Op.operands]
            rw [hop] at hv
            obtain ⟨row,hv⟩:=tm hv
            have hv':cY S Y fun b=>[AV.fptr row 0,b]=[p,z]:=hv
            obtain ⟨b,hb,_⟩:=ct _ hv'
            cases hb
            obtain ⟨cs,h7,_⟩:=cn _ h6
            split at h7
            · obtain ⟨_,h7⟩:=ab h7
              exact h7
            · exact h7
        · exact h6
    · unfold uS
      rw [hc]
      have hm':=yV (hm.2 hc)
      refine gT (S:=S) (h2 (fun vs=>lr C pl o vs (da S2) fun r M=>bN o.dst r (e_ S2 M) K2) ?_) ha
      rw [hm',oK hmk]
      refine h4 _ ?_
      rw [aD]
      exact hk
  · rename_i hc
    split at h
    · rename_i d hd
      rw [aD] at h
      refine ⟨_,none,⟨⟨fun _=>rfl,fun M e=>by cases e⟩,fun S2 ha _ K2 hk=>fin ha ?_⟩,h⟩
      unfold uS
      rw [hc]
      show match o.dst with
        | some d=>bN o.dst (.ptr (.L d) 0 0) S2 K2
        | none=>ad 217
      split
      · rename_i d2 hd2
        rw [hd] at hd2
        cases hd2
        rw [aD]
        exact hk
      · rename_i hd2
        rw [hd] at hd2
        cases hd2
    · exact False.elim h
  · rename_i hc
    obtain ⟨vs,h1,h2⟩:=bd _ h
    obtain ⟨r,h3,h4⟩:=rR _ h1
    rw [aD] at h3
    refine ⟨r,none,⟨⟨fun _=>rfl,fun M e=>by cases e⟩,fun S2 ha _ K2 hk=>fin ha ?_⟩,h3⟩
    unfold uS
    rw [hc]
    refine gT (S:=S) (h2 (fun vs=>Ga C o vs fun r=>bN o.dst r S2 K2) (h4 _ ?_)) ha
    rw [aD]
    exact hk
  · rename_i h0 h1 h2 h4 h5
    exfalso
    unfold z6 at hez
    split at hez
    · rename_i he; exact h0 he
    · rename_i he; exact h1 he
    · rename_i he; exact h2 he
    · rename_i he; exact h4 he
    · rename_i he; exact h5 he
    · cases hez
theorem xx {S:St} {t:List AV} (h:t=S.t):({ t:=t,l:=S.l,o:=S.o,b:=S.b }:St)=S:=by
  subst h; rfl
theorem mS {t:List AV} {d:Nat} {x:AV} (h:t[d]?=some x):t.set d x=t:=by
  apply List.ext_getElem?
  intro j
  rw [List.getElem?_set]
  by_cases hj:d=j
  · subst hj
    rw [if_pos rfl,if_pos (List.getElem?_eq_some_iff.1 h).1,h]
  · rw [if_neg hj]
def Bl (S:St) (d:Nat) (b:Option Bool):Prop :=
  match b with
  | some b=>S.t[d]?=some (.v (.bool b))
  | none=>S.t[d]?=some (.tup [])
theorem q8 {d:Nat} {S:St} {k:Option Bool→St→Prop}:fS d S k↔∃ b,Bl S d b∧k b S:=by
  constructor
  · intro h
    unfold fS at h
    rw [cr] at h
    obtain ⟨c,hc,h⟩:=h
    split at h
    · rename_i b
      rcases kW h with ⟨hb,h2⟩ | ⟨hb,h2⟩
      · subst hb
        rw [ed,xx (mS hc)] at h2
        exact ⟨some true,hc,h2⟩
      · subst hb
        rw [ed,xx (mS hc)] at h2
        exact ⟨some false,hc,h2⟩
    · exact ⟨none,hc,h⟩
    · exact False.elim h
  · rintro ⟨b,hb,h⟩
    unfold fS
    rw [cr]
    cases b with
    | none=>exact ⟨_,hb,h⟩
    | some b =>
      refine ⟨_,hb,?_⟩
      dsimp only
      refine z9 (fun e=>?_) (fun e=>?_)
      · subst e; rw [ed,xx (mS hb)]; exact h
      · subst e; rw [ed,xx (mS hb)]; exact h
def agree (ops:Array Oper) (o:Oper) (S S2:St):Prop:=∀ d∈o.looksAt ops,S2.t[d]?=S.t[d]?
def Eff (C:Ctx) (pl:bV) (ops:Array Oper) (o:Oper) (S:St) (v:AV) (m:Option St):Prop :=
  rD pl ops o S m∧∀ S2,agree ops o S S2→rC pl ops o S S2→∀ K2:St→Prop,K2 (ir S2 o.dst v m)→ag C pl ops o S2 K2
theorem wn {ops:Array Oper} {o:Oper} {S S2:St} (h:agree ops o S S2):mQ o.op.operands.toList S S2:=fun d hd =>
  h d (List.mem_append_left _ (List.mem_filterMap.2 ⟨.tmp d,hd,rfl⟩))
theorem Dt {C:Ctx} (hC:fV C) {pl:bV} {ops:Array Oper} {o:Oper} {S:St} {K:St→Prop} (hez:z6 (fp pl o)=true) (h:ag C pl ops o S K):∃ v m,Eff C pl ops o S v m∧K (ir S o.dst v m):=by
  unfold ag at h
  split at h
  · rename_i hg
    obtain ⟨v,m,⟨h1,h2⟩,h3⟩:=Bj hC hez h
    refine ⟨v,m,⟨h1,fun S2 ha hm K2 hk=>?_⟩,h3⟩
    unfold ag
    rw [hg]
    exact h2 S2 (wn ha) hm K2 hk
  · rename_i j want hg
    split at h
    · exact False.elim h
    · rename_i d hd
      obtain ⟨b,hb,h⟩:=q8.1 h
      have hlook:d∈o.looksAt ops:=List.mem_append_right _ (by
        rw [hg]
        unfold o6 at hd
        simp [hd])
      have hin:∀ (S2:St) (K2:St→Prop),agree ops o S S2→gsel b want (nV C pl ops o S2 K2) (bN o.dst (.tup []) S2 K2)→ag C pl ops o S2 K2:=by
        intro S2 K2 ha hk
        unfold ag
        rw [hg]
        dsimp only
        rw [hd]
        refine q8.2 ⟨b,?_,hk⟩
        unfold Bl at hb ⊢
        rw [ha d hlook]
        exact hb
      have yes:nV C pl ops o S K→(∀ (S2:St) (K2:St→Prop),agree ops o S S2→nV C pl ops o S2 K2→ag C pl ops o S2 K2)→∃ v m,Eff C pl ops o S v m∧K (ir S o.dst v m):=by
        intro h hi
        obtain ⟨v,m,⟨h1,h2⟩,h3⟩:=Bj hC hez h
        exact ⟨v,m,⟨h1,fun S2 ha hm K2 hk=>hi S2 K2 ha (h2 S2 (wn ha) hm K2 hk)⟩,h3⟩
      have no:bN o.dst (.tup []) S K→(∀ (S2:St) (K2:St→Prop),agree ops o S S2→bN o.dst (.tup []) S2 K2→ag C pl ops o S2 K2)→∃ v m,Eff C pl ops o S v m∧K (ir S o.dst v m):=by
        intro h hi
        rw [aD] at h
        exact ⟨.tup [],none,⟨⟨fun _=>rfl,fun M e=>by cases e⟩,fun S2 ha _ K2 hk=>hi S2 K2 ha (by rw [aD]; exact hk)⟩,h⟩
      cases b with
      | none=>exact no h (fun S2 K2 ha hk=>hin S2 K2 ha hk)
      | some b =>
        cases b <;> cases want
        · exact yes h (fun S2 K2 ha hk=>hin S2 K2 ha hk)
        · exact no h (fun S2 K2 ha hk=>hin S2 K2 ha hk)
        · exact no h (fun S2 K2 ha hk=>hin S2 K2 ha hk)
        · exact yes h (fun S2 K2 ha hk=>hin S2 K2 ha hk)
theorem Du {S:St} {dst:Option Tmp} {v:AV} {m:Option St} {d:Nat} (h:dst≠some d):(ir S dst v m).t[d]?=S.t[d]?:=by
  unfold ir jU
  cases dst with
  | none=>cases m <;> rfl
  | some e =>
    have hne:e≠d:=fun he=>h (by rw [he])
    cases m <;> simp [e_,List.getElem?_set_ne hne]
theorem tq {S:St} {dst:Option Tmp} {v:AV}:jq S (ir S dst v none):=by
  unfold ir jU
  cases dst <;> exact ⟨rfl,rfl,rfl⟩
def tr (pl:bV) (ops:Array Oper) (x y:Oper):Prop :=
  fp pl x=2→fp pl y≠2∧(fp pl y=1→iG pl ops x y=true)
theorem rE {pl:bV} {ops:Array Oper} {x y:Oper} (h:iG pl ops x y=true):iG pl ops y x=true:=by
  revert h
  unfold iG
  generalize fq pl ops x=a
  generalize fq pl ops y=b
  intro h
  cases a with
  | none=>cases b with
    | none=>exact h
    | some b=>rfl
  | some a=>cases b with
    | none=>rfl
    | some b =>
      have h':(!(Nat.beq a b))=true:=h
      show (!(Nat.beq b a))=true
      cases hb:Nat.beq b a with
      | false=>rfl
      | true =>
        have:=Nat.eq_of_beq_eq_true hb
        subst this
        rw [hb] at h'
        cases h'
theorem yZ {pl:bV} {ops:Array Oper} {x y:Oper} (h:sq pl ops x y=true):x.apart ops y=true∧tr pl ops x y∧tr pl ops y x∧z6 (fp pl x)=true∧z6 (fp pl y)=true:=by
  unfold sq at h
  simp only [Bool.and_eq_true] at h
  refine ⟨h.1,fun e=>⟨fun e2=>?_,fun e2=>?_⟩,fun e=>⟨fun e2=>?_,fun e2=>?_⟩,?_,?_⟩
  · have h2:=h.2
    rw [e,e2] at h2
    simp at h2
  · have h2:=h.2
    rw [e,e2] at h2
    exact h2
  · have h2:=h.2
    rw [e,e2] at h2
    simp at h2
  · have h2:=h.2
    rw [e,e2] at h2
    exact rE h2
  · have h2:=h.2
    revert h2
    split <;> rename_i h3 h4 <;> intro h2 <;> first | (rw [h3]; rfl) | cases h2
  · have h2:=h.2
    revert h2
    split <;> rename_i h3 h4 <;> intro h2 <;> first | (rw [h4]; rfl) | cases h2
theorem Cj {S:St} {x y:Option Tmp} {v u:AV} {m n:Option St} (h:∀ d,x=some d→y≠some d) (hm:m=none∨n=none):ir (ir S x v m) y u n=ir (ir S y u n) x v m:=by
  cases x with
  | none=>cases y <;> rcases hm with rfl | rfl <;> first | rfl | (cases m <;> rfl) | (cases n <;> rfl)
  | some d =>
    cases y with
    | none=>rcases hm with rfl | rfl <;> first | (cases m <;> rfl) | (cases n <;> rfl)
    | some e =>
      have hne:d≠e:=fun he=>h d rfl (he▸rfl)
      have hs:(S.t.set d v).set e u=(S.t.set e u).set d v:=List.set_comm _ _ hne
      rcases hm with rfl | rfl
      · cases n <;> simp only [ir,jU,e_,hs]
      · cases m <;> simp only [ir,jU,e_,hs]
theorem Dv {S:St} {dst:Option Tmp} {v:AV} {m:Option St}:(ir S dst v m).l=match m with | none=>S.l | some M=>M.l:=by
  unfold ir
  rw [cG]
  cases m <;> rfl
theorem y_ {pl:bV} {ops:Array Oper} {x y:Oper} {S:St} {v:AV} {m:Option St} (hk:rD pl ops x S m) (hc:tr pl ops x y):rC pl ops y S (ir S x.dst v m):=by
  cases m with
  | none=>exact .of tq
  | some M =>
    have h2:fp pl x=2:=by
      cases Nat.decEq (fp pl x) 2 with
      | isTrue h=>exact h
      | isFalse h=>have:=hk.1 h; cases this
    obtain ⟨h3,h4⟩:=hc h2
    refine ⟨fun h1=>?_,fun h=>absurd h h3⟩
    have hap:=h4 h1
    have hkm:=hk.2 M rfl
    have hoM:(ir S x.dst v (some M)).o=M.o:=by unfold ir; rw [cH]; rfl
    revert hap hkm
    unfold iG
    generalize fq pl ops x=sx
    generalize fq pl ops y=sy
    intro hap hkm
    cases sx with
    | some a=>cases sy with
      | some b =>
        show aG _ b=_
        rw [Dv]
        refine hkm.2 b (fun e=>?_)
        subst e
        have h':(!(Nat.beq b b))=true:=hap
        rw [show Nat.beq b b=true from Nat.beq_refl b] at h'
        cases h'
      | none =>
        show (ir S x.dst v (some M)).o=S.o
        rw [hoM]
        exact hkm.1
    | none=>cases sy with
      | some b =>
        show aG _ b=_
        rw [Dv]
        show aG M.l b=_
        rw [show M.l=S.l from hkm]
      | none=>cases hap
theorem rC.symm {pl:bV} {ops:Array Oper} {o:Oper} {S S2:St} (h:rC pl ops o S S2):rC pl ops o S2 S:=⟨fun h1=>(h.1 h1).symm,fun h2=>(h.2 h2).symm⟩
theorem rC.trans {pl:bV} {ops:Array Oper} {o:Oper} {S S2 S3:St} (h:rC pl ops o S S2) (k:rC pl ops o S2 S3):rC pl ops o S S3:=⟨fun h1=>(h.1 h1).trans (k.1 h1),fun h2=>(h.2 h2).trans (k.2 h2)⟩
theorem pD.of {site:Option Nat} {S S2 M:St} (h:jq S S2) (k:pD site S2 M):pD site S M:=by
  cases site with
  | some r =>
    obtain ⟨k1,k2⟩:=k
    refine ⟨k1.trans h.2.1,fun r' hr=>?_⟩
    rw [k2 r' hr,h.1]
  | none=>exact Eq.trans k h.1
theorem rD.after {pl:bV} {ops:Array Oper} {x y:Oper} {S:St} {v:AV} {m n:Option St} (hk:rD pl ops y (ir S x.dst v m) n) (hx:rD pl ops x S m) (hc:tr pl ops x y):rD pl ops y S n:=by
  refine ⟨hk.1,fun M e=>?_⟩
  have h2:fp pl y=2:=by
    cases Nat.decEq (fp pl y) 2 with
    | isTrue h=>exact h
    | isFalse h=>have:=hk.1 h; rw [this] at e; cases e
  have hm:m=none:=hx.1 fun h=>(hc h).1 h2
  subst hm
  exact pD.of tq (hk.2 M e)
theorem rD.before {pl:bV} {ops:Array Oper} {x y:Oper} {S:St} {v:AV} {m n:Option St} (hx:rD pl ops x S m) (hy:rD pl ops y S n) (hc:tr pl ops x y):rD pl ops x (ir S y.dst v n) m:=by
  refine ⟨hx.1,fun M e=>?_⟩
  have h2:fp pl x=2:=by
    cases Nat.decEq (fp pl x) 2 with
    | isTrue h=>exact h
    | isFalse h=>have:=hx.1 h; rw [this] at e; cases e
  have hn:n=none:=hy.1 fun h=>(hc h2).1 h
  subst hn
  exact pD.of tq.symm (hx.2 M e)
theorem Gl {C:Ctx} (hC:fV C) {pl:bV} {ops:Array Oper} {oi oj:Oper} {v:AV} {m:Option St} (hap:sq pl ops oi oj=true) {K:St→Prop} {S:St}
    (hy:Eff C pl ops oi S v m) (h:ag C pl ops oj (ir S oi.dst v m) K):ag C pl ops oj S fun S'=>Eff C pl ops oi S' v m∧K (ir S' oi.dst v m):=by
  obtain ⟨hap,hc1,hc2,_,hez⟩:=yZ hap
  obtain ⟨h1,h2,h3⟩:=Oper.apart_spec hap
  obtain ⟨u,n,hj,hk⟩:=Dt hC hez h
  have hjk:rD pl ops oj S n:=hj.1.after hy.1 hc1
  refine hj.2 S (fun d hd=>(Du (fun e=>h1 d e hd)).symm) (y_ hy.1 hc1).symm _ ⟨⟨hy.1.before hjk hc1,fun S2 ha hm K2 hk2=>hy.2 S2 (fun d hd=>(ha d hd).trans (Du (fun e=>h3 d e hd))) ((y_ hjk hc2).trans hm) K2 hk2⟩,?_⟩
  rw [← Cj h2 ?_]
  · exact hk
  · by_cases h12:fp pl oi=2
    · exact .inr (hj.1.1 (hc1 h12).1)
    · exact .inl (hy.1.1 h12)
theorem tu {f:Nat→Edge→Nat} {acc:List Nat} {i:Nat} (hf:∀ s e,Nat.testBit (f s e) i=true→Nat.testBit s i=true∨(Region.binds .any e=true∧(e.on=i∨Nat.testBit (acc.getD e.on 0) i=true))):∀ (l:List Edge) (s:Nat),Nat.testBit (l.foldl f s) i=true →
    Nat.testBit s i=true∨∃ e∈l,Region.binds .any e=true∧(e.on=i∨Nat.testBit (acc.getD e.on 0) i=true)
  | [],s,h=>.inl h
  | e::l,s,h=>by
    rw [List.foldl_cons] at h
    rcases tu hf l _ h with h | ⟨e',he,h1,h2⟩
    · rcases hf _ _ h with h | ⟨h1,h2⟩
      · exact .inl h
      · exact .inr ⟨e,List.mem_cons_self,h1,h2⟩
    · exact .inr ⟨e',List.mem_cons_of_mem _ he,h1,h2⟩
theorem kN (o:Oper) (os:List Oper) (acc:List Nat):∃ b,cg (o::os) acc=cg os (acc++[b])∧∀ i,Nat.testBit b i=true→∃ e∈o.after,Region.binds .any e=true∧(e.on=i∨Nat.testBit (acc.getD e.on 0) i=true):=by
  refine ⟨_,rfl,fun i h=>?_⟩
  have hz:Nat.testBit 0 i=true→False:=fun h=>by simp at h
  refine (tu (acc:=acc) (fun s e h=>?_) _ _ h).elim (fun h=>(hz h).elim) (fun ⟨e,he,h1,h2⟩=>⟨e,by simpa using he,h1,h2⟩)
  split at h
  · rename_i hb
    have h':Nat.testBit (s ||| (2 ^ e.on ||| acc.getD e.on 0)) i=true:=h
    rw [Nat.testBit_or,Nat.testBit_or,Nat.testBit_two_pow] at h'
    simp only [Bool.or_eq_true,decide_eq_true_eq] at h'
    rcases h' with h' | h' | h'
    · exact .inl h'
    · exact .inr ⟨hb,.inl h'⟩
    · exact .inr ⟨hb,.inr h'⟩
  · exact .inl h
theorem nH:∀ (os:List Oper) (acc:List Nat),∃ l,cg os acc=acc++l
  | [],acc=>⟨[],by simp [cg]⟩
  | o::os,acc=>by
    obtain ⟨b,h1,_⟩:=kN o os acc
    obtain ⟨l,h⟩:=nH os (acc++[b])
    exact ⟨b::l,by rw [h1,h,List.append_assoc]; rfl⟩
theorem nI:∀ (os:List Oper) (acc:List Nat) (j:Nat) (o:Oper) (i:Nat),os[j]?=some o→Nat.testBit ((cg os acc).getD (acc.length + j) 0) i=true →
    ∃ e∈o.after,Region.binds .any e=true∧(e.on=i∨Nat.testBit ((cg os acc).getD e.on 0) i=true)
  | [],_,_,_,_,h,_=>by simp at h
  | o0::os,acc,0,o,i,h,hb=>by
    simp only [List.getElem?_cons_zero,Option.some.injEq] at h
    subst h
    obtain ⟨b,h1,h2⟩:=kN o0 os acc
    obtain ⟨l,hl⟩:=nH os (acc++[b])
    rw [h1,hl,List.append_assoc] at hb ⊢
    have e1:(acc++([b]++l)).getD (acc.length + 0) 0=b:=by
      simp [List.getD_eq_getElem?_getD]
    rw [e1] at hb
    obtain ⟨e,he,h3,h4⟩:=h2 i hb
    refine ⟨e,he,h3,h4.imp id (fun h=>?_)⟩
    by_cases hlt:e.on<acc.length
    · rw [List.getD_eq_getElem?_getD,List.getElem?_append_left hlt,← List.getD_eq_getElem?_getD]
      exact h
    · rw [List.getD_eq_getElem?_getD,List.getElem?_eq_none (by omega)] at h
      simp at h
  | o0::os,acc,j + 1,o,i,h,hb=>by
    obtain ⟨b,h1,h2⟩:=kN o0 os acc
    rw [h1] at hb ⊢
    refine nI os _ j o i (by simpa using h) ?_
    have:(acc++[b]).length + j=acc.length + (j + 1):=by simp; omega
    rw [this]
    exact hb
theorem waits {ops:Array Oper} {j i:Nat} {o:Oper} (hj:ops[j]?=some o) (h:Nat.testBit ((cg ops.toList []).getD j 0) i=true) :
    ∃ e∈o.after,Region.binds .any e=true∧(e.on=i∨Nat.testBit ((cg ops.toList []).getD e.on 0) i=true) :=
  nI ops.toList [] j o i (by simpa using hj) (by simpa using h)
def Closed (ops:Array Oper) (listed:Array Bool):Prop:=∀ j,listed.getD j false=true→∀ i,Nat.testBit ((cg ops.toList []).getD j 0) i=true→listed.getD i false=true
theorem Dw {listed:Array Bool} {i:Nat} (h:listed.getD i true=false):listed.getD i false=true→False:=by
  intro h2
  simp only [Array.getD_eq_getD_getElem?] at h h2
  cases hh:listed[i]? with
  | none=>rw [hh] at h; simp at h
  | some b=>rw [hh] at h h2; simp at h h2; rw [h] at h2; cases h2
theorem Closed.ready {ops:Array Oper} {listed:Array Bool} (hc:Closed ops listed) {j:Nat} (hj:j∈Region.ready .any ops listed) {i:Nat} (hb:Nat.testBit ((cg ops.toList []).getD j 0) i=true):listed.getD i false=true:=by
  obtain ⟨_,o,ho,hall⟩:=mem_ready.1 hj
  obtain ⟨e,he,h1,h2⟩:=waits ho hb
  rcases h2 with h2 | h2
  · rw [← h2]; exact hall e he h1
  · exact hc _ (hall e he h1) _ h2
theorem tv {listed:Array Bool} {i j:Nat} (h:listed.getD i false=true):(listed.setIfInBounds j true).getD i false=true:=by
  by_cases hij:j=i
  · subst hij
    simp only [Array.getD_eq_getD_getElem?] at *
    cases hh:listed[j]? with
    | none=>rw [hh] at h; simp at h
    | some b =>
      have:=(Array.getElem?_eq_some_iff.1 hh).1
      simp [this]
  · rw [getD_set_ne false hij]; exact h
theorem Closed.set {ops:Array Oper} {listed:Array Bool} (hc:Closed ops listed) {j:Nat} (hj:j∈Region.ready .any ops listed):Closed ops (listed.setIfInBounds j true):=by
  intro k hk i hb
  by_cases hjk:j=k
  · subst hjk
    exact tv (hc.ready hj hb)
  · rw [getD_set_ne false hjk] at hk
    exact tv (hc k hk i hb)
theorem mT {ops:Array Oper} {listed:Array Bool} {i j:Nat} (hi:i∈Region.ready .any ops listed) (hne:j≠i):i∈Region.ready .any ops (listed.setIfInBounds j true):=by
  obtain ⟨h1,o,ho,h2⟩:=mem_ready.1 hi
  exact mem_ready.2 ⟨by rw [getD_set_ne true hne]; exact h1,o,ho,fun e he hb=>tv (h2 e he hb)⟩
def Dx (C:Ctx) (pl:bV) (ops:Array Oper) (i:Nat) (K:St→Prop) (S:St):Prop :=
  match ops[i]? with
  | none=>K S
  | some o=>ag C pl ops o S K
def za (C:Ctx) (pl:bV) (ops:Array Oper) (Q:St→Prop):Nat→Array Bool→St→Prop
  | 0,listed,S=>Region.ready .any ops listed=[]∧Q S
  | fuel + 1,listed,S=>(Region.ready .any ops listed=[]→Q S)∧∀ i∈Region.ready .any ops listed,Dx C pl ops i (za C pl ops Q fuel (listed.setIfInBounds i true)) S
theorem Bm {C:Ctx} (hC:fV C) {pl:bV} {ops:Array Oper} {o:Oper} {S:St} {K K':St→Prop} (h:ag C pl ops o S K) (hk:∀ S,K S→K' S):ag C pl ops o S K':=by
  obtain ⟨S',h1,h2⟩:=Dn hC _ h
  exact h2 K' (hk _ h1)
def Fr (pl:bV) (ops:Array Oper) (listed:Array Bool) (i:Nat) (oi:Oper):Prop:=∀ j oj,ops[j]?=some oj→j≠i→listed.getD j true=false→Nat.testBit ((cg ops.toList []).getD j 0) i=false→sq pl ops oi oj=true
theorem AA {C:Ctx} (hC:fV C) {pl:bV} {ops:Array Oper} {Q:St→Prop} {i:Nat} {oi:Oper} {v:AV} {m:Option St} (hi:ops[i]?=some oi) :
    ∀ (fuel:Nat) (listed:Array Bool) (S:St),Closed ops listed→Fr pl ops listed i oi→i∈Region.ready .any ops listed→Eff C pl ops oi S v m →
      za C pl ops Q fuel (listed.setIfInBounds i true) (ir S oi.dst v m)→za C pl ops Q (fuel + 1) listed S:=by
  have here:∀ {S:St} {K:St→Prop},Eff C pl ops oi S v m→K (ir S oi.dst v m)→Dx C pl ops i K S:=by
    intro S K hy hk
    unfold Dx
    rw [hi]
    exact hy.2 S (fun _ _=>rfl) (.of (jq.refl S)) K hk
  intro fuel
  induction fuel with
  | zero =>
    intro listed S _ _ hr hy H
    refine ⟨fun h=>(by rw [h] at hr; cases hr),fun j hj=>?_⟩
    by_cases hji:j=i
    · subst hji; exact here hy H
    · have:=mT hj (fun e=>hji e.symm)
      rw [H.1] at this
      cases this
  | succ fuel ih =>
    intro listed S hcl hfree hr hy H
    refine ⟨fun h=>(by rw [h] at hr; cases hr),fun j hj=>?_⟩
    by_cases hji:j=i
    · subst hji; exact here hy H
    · have h1:=H.2 j (mT hj (fun e=>hji e.symm))
      obtain ⟨hjun,oj,hoj,hall⟩:=mem_ready.1 hj
      have hnot:Nat.testBit ((cg ops.toList []).getD j 0) i=false:=by
        cases hb:Nat.testBit ((cg ops.toList []).getD j 0) i with
        | false=>rfl
        | true=>exact (Dw (mem_ready.1 hr).1 (hcl.ready hj hb)).elim
      unfold Dx at h1 ⊢
      rw [hoj] at h1 ⊢
      have h2:=Gl hC (hfree j oj hoj hji hjun hnot) hy h1
      have hfree':Fr pl ops (listed.setIfInBounds j true) i oi:=fun k ok hk hki hun hno=>by
        refine hfree k ok hk hki ?_ hno
        by_cases hjk:j=k
        · subst hjk; exact hjun
        · rw [getD_set_ne true hjk] at hun; exact hun
      refine Bm hC h2 (fun S' h3=>ih (listed.setIfInBounds j true) S' (hcl.set hj) hfree' (mT hr (fun e=>hji e)) h3.1 ?_)
      rw [Array.setIfInBounds_comm _ _ hji]
      exact h3.2
theorem AB {pl:bV} {ops:Array Oper} {listed:Array Bool} {i:Nat} {oi:Oper} (hi:ops[i]?=some oi) (h:Bc pl ops (cg ops.toList []) listed i=true):Fr pl ops listed i oi:=by
  intro j oj hj hji hun hno
  unfold Bc at h
  rw [hi] at h
  have hlt:j<ops.size:=(Array.getElem?_eq_some_iff.1 hj).1
  have:=List.all_eq_true.1 h j (List.mem_range.2 hlt)
  rw [hj] at this
  simp only [hun,hno,Bool.or_eq_true,Bool.or_false] at this
  rcases this with h | h
  · exact absurd (Nat.eq_of_beq_eq_true h) hji
  · simpa using h
theorem Gm {x y:Value} (h:Iq x y=true):x=y:=by
  unfold Iq at h
  split at h
  · simp at h; rw [h]
  · simp at h; rw [h.1,h.2]
  · rename_i a b
    have h':=eq_of_beq h
    congr 1
    have:a.data=b.data:=Array.ext' h'
    cases a; cases b; simp_all
  · cases h
theorem Gn {x y:Key} (h:Ir x y=true):x=y:=by
  unfold Ir at h
  split at h
  · rw [Nat.eq_of_beq_eq_true h]
  · rw [Nat.eq_of_beq_eq_true h]
  · cases h
theorem gF {α:Type} {f:α→α→Bool} (hf:∀ x y,f x y=true→x=y):∀ {xs ys:List α},yi f xs ys=true→xs=ys
  | [],[],_=>rfl
  | x::xs,y::ys,h=>by
    unfold yi at h
    simp only [Bool.and_eq_true] at h
    rw [hf x y h.1,gF hf h.2]
  | [],_::_,h=>by cases h
  | _::_,[],h=>by cases h
theorem qw:∀ (n:Nat) (x y:AV),BZ n x y=true→x=y
  | 0,_,_,h=>by cases h
  | n + 1,x,y,h=>by
    have ih:=qw n
    have nb:∀ {a b:Nat},Nat.beq a b=true→a=b:=fun h=>Nat.eq_of_beq_eq_true h
    unfold BZ at h
    split at h <;> first | rfl | (cases h; done) | skip
    · rw [Gm h]
    · simp only [Bool.and_eq_true] at h; rw [Gn h.1.1,nb h.1.2,nb h.2]
    · simp only [Bool.and_eq_true] at h; rw [gF ih h.1,nb h.2]
    · rw [gF (fun _ _ h=>gF ih h) h]
    · rw [nb h]
    · simp only [Bool.and_eq_true] at h; rw [nb h.1.1.1,nb h.1.1.2,nb h.1.2,nb h.2]
    · rw [nb h]
    · simp only [Bool.and_eq_true] at h; rw [nb h.1.1,gF ih h.1.2,gF ih h.2]
    · rw [gF ih h]
    · rw [gF ih h]
theorem EQ (x y:Ob) (h:Gb x y=true):x=y:=by
  unfold Gb at h
  split at h
  · simp only [Bool.and_eq_true,beq_iff_eq] at h
    rw [h.1.1,Nat.eq_of_beq_eq_true h.1.2,gF (fun _ _ h=>gF (qw 8) h) h.2]
  · simp only [Bool.and_eq_true,beq_iff_eq] at h
    rw [h.1,gF (fun (x y:AV×AV) h=>by
      simp only [Bool.and_eq_true] at h
      exact Prod.ext (qw 8 _ _ h.1) (qw 8 _ _ h.2)) h.2]
  · rfl
  · cases h
theorem ER {S S':St} (h:Gc S S'=true):S=S':=by
  unfold Gc at h
  simp only [Bool.and_eq_true] at h
  obtain ⟨t,l,o,b⟩:=S
  obtain ⟨t',l',o',b'⟩:=S'
  simp only at h
  rw [gF (qw 8) h.1.1.1,gF (fun (x y:Nat×List AV) h=>by
    simp only [Bool.and_eq_true] at h
    exact Prod.ext (Nat.eq_of_beq_eq_true h.1) (gF (qw 8) h.2)) h.1.1.2,gF EQ h.1.2,Nat.eq_of_beq_eq_true h.2]
theorem Ck {S2 S1:St} {X:Prop} (h:qK S2 S1 X):S2=S1∧X:=by
  unfold qK at h
  split at h
  · rename_i he; exact ⟨ER he,h⟩
  · exact h
theorem zb {go:Nat→(St→Prop)→Prop} (hg:∀ i,aw (go i)):∀ {is:List Nat} {S1:St} {X:Prop},z7 go is S1 X→X∧∀ i∈is,go i fun S2=>S2=S1
  | [],_,_,h=>⟨h,fun i hi=>by cases hi⟩
  | i::is,S1,X,h=>by
    obtain ⟨S2,h1,h2⟩:=hg i _ h
    obtain ⟨h3,h4⟩:=Ck h1
    obtain ⟨h5,h6⟩:=zb hg h4
    refine ⟨h5,fun k hk=>?_⟩
    rcases List.mem_cons.1 hk with rfl | hk
    · exact h2 _ h3
    · exact h6 k hk
theorem nJ {pl:bV} {ops:Array Oper} {ws:List Nat} {listed:Array Bool}:∀ {is:List Nat} {k:Nat},mr pl ops ws listed is=some k→k∈is∧Bc pl ops ws listed k=true∧∃ o,ops[k]?=some o∧z6 (fp pl o)=true
  | [],_,h=>by cases h
  | i::is,k,h=>by
    unfold mr at h
    split at h
    · rename_i hb
      cases h
      simp only [Bool.and_eq_true] at hb
      refine ⟨List.mem_cons_self,hb.2,?_⟩
      have h1:=hb.1
      split at h1
      · rename_i o ho; exact ⟨o,ho,h1⟩
      · cases h1
    · obtain ⟨h1,h2⟩:=nJ h
      exact ⟨List.mem_cons_of_mem _ h1,h2⟩
theorem tw {C:Ctx} {pl:bV} {ops:Array Oper} {i:Nat} {S:St} {K:St→Prop} (h:vD C pl ops i S K):Dx C pl ops i K S:=by
  unfold vD at h
  unfold Dx
  split at h
  · exact False.elim h
  · rename_i o ho
    rw [ho]
    exact h
theorem Dy {C:Ctx} (hC:fV C) {pl:bV} {ops:Array Oper} {i:Nat} {S:St} {K K':St→Prop} (h:Dx C pl ops i K S) (hk:∀ S,K S→K' S):Dx C pl ops i K' S:=by
  unfold Dx at h ⊢
  split
  · rename_i ho; rw [ho] at h; exact hk _ h
  · rename_i o ho; rw [ho] at h; exact Bm hC h hk
theorem pE {C:Ctx} (hC:fV C) {pl:bV} {ops:Array Oper} {Q:St→Prop}:∀ (n:Nat) (listed:Array Bool) (S:St),Closed ops listed→i8 C pl ops (cg ops.toList []) n listed S Q→za C pl ops Q n listed S
  | 0,listed,S,_,h=>by
    unfold i8 at h
    split at h
    · rename_i he; exact ⟨he,h⟩
    · exact False.elim h
  | n + 1,listed,S,hcl,h=>by
    unfold i8 at h
    split at h
    · rename_i he
      exact ⟨fun _=>h,fun i hi=>by rw [he] at hi; cases hi⟩
    · rename_i r rs he
      split at h
      · rename_i k hk
        obtain ⟨hm,hf,o,ho,hez⟩:=nJ hk
        rw [← he] at hm
        have h1:=tw h
        unfold Dx at h1
        rw [ho] at h1
        obtain ⟨v,m,hy,hK⟩:=Dt hC hez h1
        exact AA hC ho n listed S hcl (AB ho hf) hm hy (pE hC n _ _ (hcl.set hm) hK)
      · have hdet:∀ i,aw (fun K':St→Prop=>vD C pl ops i S fun S'=>i8 C pl ops (cg ops.toList []) n (listed.setIfInBounds i true) S' K'):=fun i=>aw.bind (fw hC) (fun S'=>fe hC n _ S')
        obtain ⟨S1,h1,h2⟩:=hdet r _ h
        obtain ⟨h3,h4⟩:=zb hdet h1
        refine ⟨fun h0=>(by rw [he] at h0; cases h0),fun i hi=>?_⟩
        have hi':=hi
        rw [he] at hi'
        have hgo:vD C pl ops i S fun S'=>i8 C pl ops (cg ops.toList []) n (listed.setIfInBounds i true) S' Q:=by
          rcases List.mem_cons.1 hi' with rfl | hi'
          · exact h2 Q h3
          · obtain ⟨S2,h5,h6⟩:=hdet i _ (h4 i hi')
            exact h6 Q (by rw [h5]; exact h3)
        exact Dy hC (tw hgo) (fun S' h=>pE hC n _ S' (hcl.set hi) h)
open Go.RowKit (Below)
def ZR (P:Program) (e:TypeId) (cs:List AV):Prop:=∃ i z,P.info? e=some i∧i.zero=some z∧∀ E,cq E cs z.cells.toList
theorem AC (k:Key) (c:Value):c_ 4 k (r7 c)=r7 c:=by
  unfold r7
  split <;> rfl
theorem tz {P:Program} {e:TypeId} {k:List AV→Prop} (h:cO P e k):∃ cs,ZR P e cs∧k cs∧∀ k:Key,cs.map (c_ 4 k)=cs:=by
  unfold cO at h
  split at h
  · rename_i i hi
    split at h
    · rename_i z hz
      obtain ⟨h1,h2⟩:=ab h
      rw [gN] at h2
      obtain ⟨i',z',cs,hi',hz',_,he,hcs⟩:=dv (P:=P) (e:=e) (k:=fun cs=>cs=z.cells.toList.map r7) (by
        unfold cO
        rw [hi]
        dsimp only
        rw [hz]
        dsimp only
        refine al h1 ?_
        rw [gN])
      subst he
      refine ⟨_,⟨i',z',hi',hz',hcs⟩,h2,fun k=>?_⟩
      rw [List.map_map]
      exact List.map_congr_left fun c _=>AC k c
    · exact False.elim h
  · exact False.elim h
theorem ah.drawn {G:Gh} {p:Nat→Option (List AV)} {E:Env} {S:St} {w:World} {n:Nat} (h:ah G p E S w):ah G p E S { w with drawn:=n } :=
  ⟨h.hp,h.os,h.tape,h.output,h.size,h.keep,h.F0,h.Flt,h.Fnew,h.own,h.inj,h.loc,h.obj,h.old,h.bl,h.szs,h.pk,h.ow⟩
theorem gj.congr {p p':Nat→Option (List AV)} {E:Env} {x:Option (List AV)} {d:Nat} (h:gj p E x d) (hp:p' d=p d):gj p' E x d:=by
  unfold gj at *
  cases x with
  | none=>exact h
  | some row =>
    rcases h with h | ⟨h1,h2,h3⟩
    · exact .inl h
    · exact .inr ⟨h1,hp.trans h2,h3⟩
def j6 (o:Oper) (p:Nat→Option (List AV)):Nat→Option (List AV) :=
  match o.op,o.dst with
  | .alloc _,some d=>fun x=>if x=d then none else p x
  | _,_=>p
theorem j7 {o:Oper} {p:Nat→Option (List AV)} (h:∀ e,o.op≠.alloc e):j6 o p=p:=by
  unfold j6
  split
  · rename_i e d ho _
    exact (h _ ho).elim
  · rfl
theorem lK {o:Oper} {p:Nat→Option (List AV)} {e:TypeId} {d:Nat} (h:o.op=.alloc e) (hd:o.dst=some d):j6 o p=fun x=>if x=d then none else p x:=by
  unfold j6
  rw [h,hd]
section
variable {G:Gh} {p:Nat→Option (List AV)} {E:Env} {S:St} {w:World} {C:Ctx} {pl:bV} {o:Oper} {a:Act} {K:St→Prop}
theorem xy {d:Nat} {e:TypeId} {cs:List AV} (hM:ah G p E S w) (ht:TR E S.t a) (ho:o.op=.alloc e) (hd:o.dst=some d) (hp:p d=some cs) (hz:ZR C.P e cs) (hpos:0<cs.length)
    (h:K (jU S (some d) (.ptr (.L d) 0 0))) (next:Act→World→Prop) (Q:Exit→Act→World→Prop)
    (hn:∀ S' E' a' w',K S'→ah G (j6 o p) E' S' w'→TR E' S'.t a'→next a' w'):o.wp C.P a w next Q:=by
  obtain ⟨i,z,hi,hz,hcs⟩:=hz
  obtain ⟨hmu,hrow⟩:=hM.pk d cs hp
  have hrun:(execOp a.eval o).run C.P w=.ok (.value (.pointer (some ⟨w.heap.size,0,none⟩))) { w with heap:=w.heap.push (.cells z.cells e) }:=by
    simp [execOp,ho,Instr.alloc,cW hi hz,og]
  refine dE hrun ?_
  have arr:∀ {E1:Env},cq E1 cs z.cells.toList→cz E1 (w.heap.push (.cells z.cells e)) [cs] w.heap.size 0 cs.length:=by
    intro E1 hcs1
    refine cz.of_rows hpos (fun r hr=>by simp at hr; subst hr; rfl) (dU w _) (by have:=hcs1.1; simp at this; simp; omega) (fun i row r c h1 h2=>?_)
    cases i with
    | zero =>
      simp at h1
      subst h1
      obtain ⟨u,hu,hv⟩:=hcs1.get h2
      exact ⟨u,by simpa using hu,hv⟩
    | succ i=>simp at h1
  rw [lK ho hd] at hn
  obtain ⟨hle,hS⟩:=hM.newkey' (p':=fun x=>if x=d then none else p x) (ob:=.cells z.cells e) (key:=.L d) (sz:=cs.length) (n:=1) (fun x hx=>if_neg fun h=>hx (by rw [h])) (fun x hx=>by cases hx; exact if_pos rfl) hmu
    (M':=S) (fun _ _=>rfl) (fun _ _=>rfl) rfl hM.bl (fun id he=>by cases he)
    (fun e he hle=>by
      cases he
      rw [hrow]
      refine .inl ⟨w.heap.size,?_,arr (hcs _)⟩
      show aA E.mu (.L d) _ (.L d)=_
      unfold aA
      rw [if_pos rfl])
    (fun id he=>by cases he) Ab
  refine hn _ _ _ _ h (hS.congr cG cH cQ) ?_
  have:=(ht.mono hle).put (S:=S) (dst:=o.dst) (c:=.ptr (.L d) 0 0) (u:=.pointer (some ⟨w.heap.size,0,none⟩)) (by
    have hmu':aA E.mu (.L d) (.blk w.heap.size 0 cs.length 1) (.L d)=some (.blk w.heap.size 0 cs.length 1):=by unfold aA; rw [if_pos rfl]
    have:=VR.ptr (E:=⟨E.F,aA E.mu (.L d) (.blk w.heap.size 0 cs.length 1),w.heap.push (.cells z.cells e)⟩) 0 0 rfl hmu'
    simpa using this)
  rw [hd] at this ⊢
  exact this
theorem Cl {e:TypeId} (ho:o.op=.alloc e):fp pl o=4:=by
  have hw:fE pl o=false:=by unfold fE; rw [ho]
  unfold fp
  rw [hw]
  dsimp only
  unfold vC
  rw [ho]
theorem ze {C:Ctx} (hC:eh C) {pl:bV} {o:Oper} {S:St} {K:St→Prop} {G:Gh} {pd:Nat→Option (List AV)} {E:Env} {w:World} {a:Act} {c:Call} (hM:ah G pd E S w) (ht:TR E S.t a) (ho:o.op=.call c) (h:nz C pl o S K):dr C.P G pd o a w K:=by
  unfold nz at h
  obtain ⟨vs,h,hv⟩:=dl ht h
  have hw:fE pl o=false:=by unfold fE; rw [ho]
  unfold lr at h
  rw [hw] at h
  dsimp only at h
  unfold kq at h
  rw [ho] at h hv
  split at h
  · rename_i he; cases he
  · rename_i c' fid first cap as he
    cases he
    split at h
    · rename_i x hcal
      obtain ⟨h1,h⟩:=ab h
      simp only [Bool.and_eq_true] at h1
      have hv:cq E (.fn fid first cap::as) (a.eval x::c.args.toList.map a.eval):=by simpa [Op.operands,Call.operands,hcal] using hv
      obtain ⟨u,us,e,hf,has⟩:=hv.uncons
      cases e
      obtain ⟨g1,g2⟩:=hC.scall _ _ _ _ h
      refine qY hM ht ho hcal hf has h1.2 ⟨g1,fun E w us hM hg hv=>(g2 E w us hM hg hv).mono ?_⟩
      rintro e w' ⟨v,r,o',E',hk,rest⟩
      obtain ⟨h4,h5⟩:=ab hk
      refine ⟨v,r,o',E',?_,rest⟩
      have h4:cf S.o o' 0=[]:=List.isEmpty_iff.1 h4
      show jk (cf S.o o' 0) S.t S.l _
      rw [h4]
      exact h5
    · exact h.elim
  · rename_i hne
    unfold vB at h
    rw [ho] at h
    exact h.elim
theorem zf {C:Ctx} (hC:eh C) {pl:bV} {o:Oper} {S:St} {K:St→Prop} {G:Gh} {pd:Nat→Option (List AV)} {E:Env} {w:World} {a:Act} (hM:ah G pd E S w) (ht:TR E S.t a) (h:nz C pl o S K):dr C.P G pd o a w K:=by
  cases hw:fE pl o with
  | true =>
    refine sU (pl:=pl) hM ht ?_
    unfold nz at h
    unfold wS
    have e:∀ vs M k,lr C pl o vs M k=kh C.P pl o vs M k:=fun vs M k=>by unfold lr; rw [hw]
    simp only [e] at h
    exact h
  | false =>
  have e:∀ vs M k,lr C pl o vs M k=kq C o vs M k:=fun vs M k=>by unfold lr; rw [hw]
  by_cases hmk:wj pl o
  · rcases hmk with (⟨t,X,Y,ho⟩ | ⟨c,ho⟩) | hmk
    rotate_left
    · exact ze hC hM ht ho h
    · rw [hw] at hmk; cases hmk
    refine l4 hM ht ho ?_
    unfold nz at h
    simp only [e] at h
    rw [ho] at h
    have h':cY S X fun l=>cY S Y fun c=>cj C.P t l c (da S) fun M' r=>bN o.dst r (e_ S M') K:=by
      have h:cY S X fun l=>cY S Y fun c=>kq C o [l,c] (da S) fun r M=>bN o.dst r (e_ S M) K:=h
      obtain ⟨l,h1,h2⟩:=ct _ h
      obtain ⟨c,h3,h4⟩:=ct _ h1
      refine h2 (fun l=>cY S Y fun c=>cj C.P t l c (da S) fun M' r=>bN o.dst r (e_ S M') K) (h4 (fun c=>cj C.P t l c (da S) fun M' r=>bN o.dst r (e_ S M') K) ?_)
      unfold kq at h3
      rw [ho] at h3
      exact h3
    obtain ⟨l,h1,h2⟩:=ct _ h'
    obtain ⟨c,h3,h4⟩:=ct _ h1
    refine h2 (fun l=>cY S Y fun c=>cj C.P t l c S fun S' r=>bN o.dst r S' K) (h4 (fun c=>cj C.P t l c S fun S' r=>bN o.dst r S' K) ?_)
    unfold cj at h3 ⊢
    exact h3
  · refine sX hM ht ?_
    unfold nz at h
    unfold BX
    obtain ⟨vs,h1,h2⟩:=bd _ h
    refine h2 (fun vs=>vB C o vs (da S) fun r M=>bN o.dst r (e_ S M) K) ?_
    rw [oK hmk] at h1
    exact h1
theorem Cm (hC:eh C) (hM:ah G p E S w) (ht:TR E S.t a) (hA:∀ e d,o.op=.alloc e→o.dst=some d→∃ cs,p d=some cs∧0<cs.length∧ZR C.P e cs) (h:uS C pl o S K) (next:Act→World→Prop) (Q:Exit→Act→World→Prop)
    (hn:∀ S' E' a' w',K S'→ah G (j6 o p) E' S' w'→TR E' S'.t a'→next a' w'):o.wp C.P a w next Q:=by
  by_cases hal:∃ e,o.op=.alloc e
  · obtain ⟨e,ho⟩:=hal
    unfold uS at h
    rw [Cl ho] at h
    have h':match o.dst with
      | some d=>bN o.dst (.ptr (.L d) 0 0) S K
      | none=>ad 217:=h
    split at h'
    · rename_i d hd
      obtain ⟨cs,h3,h4,h5⟩:=hA e d ho hd
      rw [aD,hd] at h'
      exact xy hM ht ho hd h3 h5 h4 h' next Q hn
    · exact False.elim h'
  · rw [j7 (fun e he=>hal ⟨e,he⟩)] at hn
    unfold uS at h
    split at h
    · exact sV hM ht h next Q hn
    · exact sW hC hM ht h next Q hn
    · exact zf hC hM ht h next Q hn
    · rename_i hc
      exfalso
      unfold fp at hc
      rw [wm (by unfold fp; rw [hc]; decide)] at hc
      dsimp only at hc
      unfold vC at hc
      split at hc
      · split at hc <;> cases hc
      · rename_i e ho; exact hal ⟨e,ho⟩
      · cases hc
      · split at hc
        · split at hc
          · cases hc
          · split at hc <;> cases hc
        · cases hc
        · split at hc <;> cases hc
        · unfold C8 at hc
          split at hc <;> try (cases hc; done)
          all_goals (split at hc <;> cases hc)
      · unfold C8 at hc
        split at hc <;> try (cases hc; done)
        all_goals (split at hc <;> cases hc)
    · exact Af hM ht h next Q hn
    · split at h
      · exact False.elim h
      · rename_i hb
        exact vZ hC (fun he=>by rw [hb] at he; cases he) hM ht h next Q hn
end
def Inv (P:Program) (p:Nat→Option (List AV)) (ops:Array Oper) (listed:Array Bool):Prop :=
  ∀ (i:Nat) (o:Oper) (e:TypeId) (d:Nat),ops[i]?=some o→o.op=.alloc e→o.dst=some d→listed.getD i true=false→∃ cs,p d=some cs∧0<cs.length∧ZR P e cs
def xz (ops:Array Oper):Prop:=∀ (i i':Nat) (o o':Oper) (e e':TypeId) (d:Nat),ops[i]?=some o→ops[i']?=some o'→o.op=.alloc e→o'.op=.alloc e'→o.dst=some d→o'.dst=some d→i=i'
theorem AD {listed:Array Bool} {i:Nat}:(listed.setIfInBounds i true).getD i true=true:=by
  simp only [Array.getD_eq_getD_getElem?,Array.getElem?_setIfInBounds,if_pos]
  split <;> rfl
theorem Inv.step {P:Program} {p:Nat→Option (List AV)} {ops:Array Oper} {listed:Array Bool} {i:Nat} {o:Oper} (h:Inv P p ops listed) (hap:xz ops) (hi:ops[i]?=some o) :
    Inv P (j6 o p) ops (listed.setIfInBounds i true):=by
  intro j oj e d hj hoj hdj hjun
  have hij:i≠j:=fun he=>by subst he; rw [AD] at hjun; cases hjun
  rw [getD_set_ne true hij] at hjun
  obtain ⟨cs,h1,h2⟩:=h j oj e d hj hoj hdj hjun
  refine ⟨cs,?_,h2⟩
  by_cases hal:∃ e,o.op=.alloc e
  · obtain ⟨e',ho⟩:=hal
    cases hd:o.dst with
    | none =>
      unfold j6
      rw [ho,hd]
      exact h1
    | some d' =>
      rw [lK ho hd]
      show (if d=d' then none else p d)=_
      rw [if_neg (fun he=>by subst he; exact hij (hap i j o oj e' e d hi hj ho hoj hd hdj))]
      exact h1
  · rw [j7 (fun e he=>hal ⟨e,he⟩)]
    exact h1
theorem AE {o:Oper} {p:Nat→Option (List AV)} {d:Nat} (h:j6 o p d≠none):p d≠none:=by
  by_cases hal:∃ e,o.op=.alloc e
  · obtain ⟨e',ho⟩:=hal
    cases hd:o.dst with
    | none =>
      unfold j6 at h
      rw [ho,hd] at h
      exact h
    | some d' =>
      rw [lK ho hd] at h
      intro hn
      apply h
      show (if d=d' then none else p d)=none
      split
      · rfl
      · exact hn
  · rw [j7 (fun e he=>hal ⟨e,he⟩)] at h
    exact h
def Q0 (Q:Exit→Act→World→Prop) (e:Exit) (a:Act) (w:World):Prop:=e=.normal∧Q .normal a w
theorem Hq {P:Program} {o:Oper} {a:Act} {w:World} {next:Act→World→Prop} {Q:Exit→Act→World→Prop} (h:o.wp P a w next (Q0 Q)):o.wp P a w next Q:=by
  unfold Oper.wp at *
  revert h
  generalize (execOp a.eval o).run P w=x
  intro h
  cases x with
  | ok x w' =>
    cases x with
    | enter f args=>exact Calls.mono h (fun e w'' he=>by
        cases e with
        | returned v=>exact he
        | panicked c=>exact absurd he.1 (fun h=>by cases h)
        | outgrown=>obtain ⟨_,_,h,_⟩:=he; cases h)
    | _=>exact h
  | halt x w' =>
    cases x with
    | panic v=>exact absurd h.1 (fun h=>by cases h)
    | _=>exact h
theorem Dz {ops:Array Oper} (h:Ia ops=true):Region.noSelect ops=true∧∀ (i:Nat) (o:Oper),ops[i]?=some o→∀ c,o.op≠.defer c:=by
  unfold Ia at h
  rw [Bool.and_eq_true] at h
  refine ⟨h.1,fun i o ho c hc=>?_⟩
  have:=List.all_eq_true.1 h.2 o (by rw [Array.mem_toList_iff]; exact Array.mem_of_getElem? ho)
  rw [hc] at this
  cases this
theorem pF {P:Program} {rr:Option Nat} {ops:Array Oper} {Q:Exit→Act→World→Prop} (hnd:∀ (i:Nat) (o:Oper),ops[i]?=some o→∀ c,o.op≠.defer c) :
    ∀ (fuel:Nat) (listed:Array Bool) (a:Act) (w:World),wpAny P .any ops (Q0 Q) fuel listed a w→wpAnyIn (rd rr) 0 P .any ops Q fuel listed a w
  | 0,_,_,_,h=>⟨h.1,h.2.2⟩
  | fuel + 1,listed,a,w,h=>by
    refine ⟨fun h0=>(h.1 h0).2,fun i hi=>?_⟩
    have h1:=h.2 i hi
    unfold wpOpIn
    unfold wpOp at h1
    split at h1
    · rename_i ho
      rw [ho]
      exact pF hnd fuel _ _ _ h1
    · rename_i o ho
      rw [ho]
      dsimp only
      split at h1
      · rename_i hw
        rw [if_pos hw]
        rcases h1 with h1 | ⟨_,_,_,h1,_⟩
        · exact v8 (hnd i o ho) (Hq (Oper.wp_mono (fun a w h=>pF hnd fuel _ _ _ h) h1))
        · cases h1
      · rename_i hw
        rw [if_neg hw]
        exact ⟨fun _ _=>trivial,pF hnd fuel _ _ _ h1⟩
theorem lL {C:Ctx} (hC:eh C) {pl:bV} {ops:Array Oper} {G:Gh} {A:Nat→Prop} {Q:St→Prop} {Qc:Exit→Act→World→Prop} (hap:xz ops) (hg:∀ (i:Nat) (o:Oper) (e:TypeId),ops[i]?=some o→o.op=.alloc e→o.guard=none)
    (hQ:∀ p S' E' a' w',(∀ d,p d≠none→A d)→Q S'→ah G p E' S' w'→TR E' S'.t a'→Qc .normal a' w') :
    ∀ (fuel:Nat) (listed:Array Bool) (p:Nat→Option (List AV)) (S:St) (E:Env) (a:Act) (w:World),(∀ d,p d≠none→A d)→ah G p E S w→TR E S.t a→Inv C.P p ops listed→za C pl ops Q fuel listed S→wpAny C.P .any ops Qc fuel listed a w
  | 0,_,_,_,_,_,_,hA,hM,ht,_,h=>⟨h.1,hQ _ _ _ _ _ hA h.2 hM ht⟩
  | fuel + 1,listed,p,S,E,a,w,hA,hM,ht,hI,h=>by
    refine ⟨fun h0=>hQ _ _ _ _ _ hA (h.1 h0) hM ht,fun i hi=>?_⟩
    have h1:=h.2 i hi
    obtain ⟨hun,o,ho,_⟩:=mem_ready.1 hi
    unfold Dx at h1
    unfold wpOp
    rw [ho] at h1 ⊢
    dsimp only at h1 ⊢
    have goon:∀ S' E' a' w',za C pl ops Q fuel (listed.setIfInBounds i true) S'→ah G (j6 o p) E' S' w'→TR E' S'.t a'→wpAny C.P .any ops Qc fuel (listed.setIfInBounds i true) a' w' :=
      fun S' E' a' w' hk hS htr=>lL hC hap hg hQ fuel _ _ S' E' a' w' (fun d hd=>hA d (AE hd)) hS htr (hI.step hap ho) hk
    have step:∀ {S1:St},ah G p E S1 w→TR E S1.t a→nV C pl ops o S1 (za C pl ops Q fuel (listed.setIfInBounds i true))→Region.wanted o (yielded ops a.tmps)=true→(if Region.wanted o (yielded ops a.tmps) then o.wp C.P a w (wpAny C.P .any ops Qc fuel (listed.setIfInBounds i true)) Qc∨(o.asks C.P a w∧LetsOut Qc) else wpAny C.P .any ops Qc fuel (listed.setIfInBounds i true) (a.put o.dst undef) w):=by
      intro S1 hM1 ht1 h hw
      obtain ⟨_,h⟩:=ab h
      rw [if_pos hw]
      exact .inl (Cm hC hM1 ht1 (fun e d h1 h2=>hI i o e d ho h1 h2 hun) h _ _ goon)
    unfold ag at h1
    split at h1
    · rename_i hgd
      exact step hM ht h1 (by unfold Region.wanted; rw [hgd])
    · rename_i j want hgd
      split at h1
      · exact False.elim h1
      · rename_i d hd
        obtain ⟨b,S1,h1,hb,hM1,ht1⟩:=jA hM ht h1
        rcases kx hgd (lB hd hb) h1 with ⟨hw,h1⟩ | ⟨hw,h1⟩
        · exact step hM1 ht1 h1 hw
        · rw [aD] at h1
          rw [if_neg (by rw [hw]; exact fun h=>by cases h)]
          have hnal:∀ e,o.op≠.alloc e:=fun e he=>by
            have:=hg i o e ho he
            rw [hgd] at this
            cases this
          refine goon _ E _ w h1 ?_ (ht1.put (px _))
          rw [j7 hnal]
          exact hM1.congr cG cH cQ
theorem AF {pl:bV} {o:Oper} (h:qa o=true):fp pl o=0∧o.guard=none∧(∀ t len parts,o.op≠.buildSlice t len parts)∧∀ e,o.op≠.alloc e:=by
  unfold qa at h
  split at h
  · cases h
  · rename_i hg
    split at h
    all_goals first
      | (rename_i ho; refine ⟨?_,hg,fun _ _ _ he=>(by rw [ho] at he; cases he),fun _ he=>(by rw [ho] at he; cases he)⟩; unfold fp fE; rw [ho]; dsimp only; unfold vC; rw [ho]; dsimp only; unfold C8; rw [ho])
      | cases h
theorem AG {C:Ctx} {pl:bV} {o:Oper} {vs:List AV} {k:AV→Prop} {E:Env} {a:Act} (hp:qa o=true) (h:pop C pl o vs k) (hv:cq E vs (o.op.operands.toList.map a.eval)):∃ r z,k r∧VR E r z∧∀ w,(execOp a.eval o).run C.P w=.ok (.value z) w:=by
  unfold qa at hp
  split at hp
  · cases hp
  · split at hp
    · rename_i x ho
      rw [ho] at hv
      unfold pop at h
      rw [ho] at h
      split at h <;> rename_i he <;> first | (cases he; done) | skip
      all_goals first
        | (cases he
           obtain ⟨u,us,e,hc,hn⟩:=hv.uncons
           simp [Op.operands] at e
           exact ⟨_,_,h,hc,fun w=>by simp [execOp,ho,e.1]⟩)
        | exact h.elim
    · rename_i x ho
      rw [ho] at hv
      unfold pop at h
      rw [ho] at h
      split at h <;> rename_i he <;> first | (cases he; done) | skip
      all_goals first
        | (cases he
           obtain ⟨u,us,e,hc,hn⟩:=hv.uncons
           simp [Op.operands] at e
           exact ⟨_,_,h,hc,fun w=>by simp [execOp,ho,e.1]⟩)
        | exact h.elim
    · rename_i x ho
      rw [ho] at hv
      unfold pop at h
      rw [ho] at h
      split at h <;> rename_i he <;> first | (cases he; done) | skip
      all_goals first
        | (cases he
           obtain ⟨u,us,e,hc,hn⟩:=hv.uncons
           simp [Op.operands] at e
           have hc0:=hc
           cases hc with
           | ptr _ _ hs0 hm=>exact ⟨_,_,h,hc0,fun w=>by simp [execOp,ho,e.1]⟩)
        | (cases he
           obtain ⟨u,us,e,hc,hn⟩:=hv.uncons
           simp [Op.operands] at e
           have hc0:=hc
           cases hc with
           | fptr _ us h1 h2 h3 h4=>exact ⟨_,_,h,hc0,fun w=>by simp [execOp,ho,e.1]⟩)
        | (cases he
           obtain ⟨u,us,e,hc,hn⟩:=hv.uncons
           simp [Op.operands] at e
           have hc0:=hc
           cases hc with
           | fn us ws h1 h2 h3 h4=>exact ⟨_,_,h,hc0,fun w=>by simp [execOp,ho,e.1]⟩)
        | exact h.elim
    · rename_i t x f ho
      rw [ho] at hv
      unfold pop at h
      rw [ho] at h
      split at h <;> rename_i he <;> first | (cases he; done) | skip
      all_goals first
        | (cases he
           obtain ⟨u,us,e,hc,hn⟩:=hv.uncons
           simp [Op.operands] at e
           obtain ⟨r,z,hk,hr,hrun⟩:=lZ h hc
           exact ⟨r,z,hk,hr,fun w=>by simp [execOp,ho,e.1,hrun w]⟩)
        | exact h.elim
    · cases hp
theorem nK {ops:Array Oper} {listed:Array Bool}:∀ {is:List Nat} {i:Nat},mw ops listed is=some i→i∈is∧∃ o,ops[i]?=some o∧qa o=true∧Region.free .any ops listed i=true
  | [],_,h=>by cases h
  | j::js,i,h=>by
    unfold mw at h
    split at h
    · rename_i hb
      cases h
      rw [Bool.and_eq_true] at hb
      obtain ⟨h1,h2⟩:=hb
      split at h1
      · rename_i o ho
        exact ⟨List.mem_cons_self,o,ho,h1,h2⟩
      · cases h1
    · obtain ⟨h1,h2⟩:=nK h
      exact ⟨List.mem_cons_of_mem _ h1,h2⟩
theorem tA {C:Ctx} (hD:fV C) (hC:eh C) {pl:bV} {ops:Array Oper} {G:Gh} {A:Nat→Prop} {Q:St→Prop} {Qc:Exit→Act→World→Prop} (hs:Region.noSelect ops=true) (hap:xz ops) (hg:∀ (i:Nat) (o:Oper) (e:TypeId),ops[i]?=some o→o.op=.alloc e→o.guard=none)
    (hQ:∀ p S' E' a' w',(∀ d,p d≠none→A d)→Q S'→ah G p E' S' w'→TR E' S'.t a'→Q0 Qc .normal a' w') :
    ∀ (fuel:Nat) (listed:Array Bool) (p:Nat→Option (List AV)) (S:St) (E:Env) (a:Act) (w:World),(∀ d,p d≠none→A d)→ah G p E S w→TR E S.t a→Inv C.P p ops listed→Closed ops listed→rv C pl ops (cg ops.toList []) fuel listed S Q→wpAny C.P .any ops (Q0 Qc) fuel listed a w
  | 0,listed,p,S,E,a,w,hA,hM,ht,hI,hcl,h=>lL hC hap hg hQ 0 listed p S E a w hA hM ht hI (pE hD 0 listed S hcl h)
  | fuel + 1,listed,p,S,E,a,w,hA,hM,ht,hI,hcl,h=>by
    unfold rv at h
    split at h
    · rename_i i hi
      obtain ⟨hm,o,ho,hp,hf⟩:=nK hi
      obtain ⟨hc0,hgd,_,hnal⟩:=AF (pl:=pl) hp
      unfold vD at h
      rw [ho] at h
      dsimp only at h
      unfold ag at h
      rw [hgd] at h
      obtain ⟨_,h⟩:=ab h
      unfold uS at h
      rw [hc0] at h
      obtain ⟨vs,h,hv⟩:=dl ht h
      obtain ⟨r,z,hk,hr,hrun⟩:=AG hp h hv
      rw [aD] at hk
      refine wpAny_take ho hs hf (by simpa using hm) (fun c a w hq=>absurd hq.1 (fun h=>by cases h)) (v:=z) (.inl ⟨by unfold Region.wanted; rw [hgd],hrun⟩) ?_
      have hI':=hI.step hap ho
      rw [j7 hnal] at hI'
      exact tA hD hC hs hap hg hQ fuel _ p _ E _ w hA (hM.congr cG cH cQ) (ht.put hr) hI' (hcl.set hm) hk
    · exact lL hC hap hg hQ (fuel + 1) listed p S E a w hA hM ht hI (pE hD (fuel + 1) listed S hcl h)
theorem tE {o:Oper} {e:TypeId} {d:Nat} (h1:o.op=.alloc e) (h2:o.dst=some d):∀ {os:List Oper},o∈os→(d,e)∈cy os:=by
  intro os
  induction os with
  | nil=>intro h; cases h
  | cons x xs ih =>
    intro h
    rcases List.mem_cons.1 h with rfl | h
    · unfold cy
      rw [h1,h2]
      exact List.mem_cons_self
    · have:=ih h
      unfold cy
      split
      · exact List.mem_cons_of_mem _ this
      · exact this
theorem zg {d:Nat}:∀ {xs:List Nat},d∈xs→ep xs d=true:=by
  intro xs
  induction xs with
  | nil=>intro h; cases h
  | cons x xs ih =>
    intro h
    rcases List.mem_cons.1 h with rfl | h
    · simp [ep]
    · simp [ep,ih h]
theorem zh {pl:bV} {x:Oper} {xs:List Oper} (hB:jz pl (cy (x::xs))=true):jz pl (cy xs)=true:=by
  unfold cy at hB
  split at hB
  · unfold jz at hB
    simp only [Bool.and_eq_true] at hB
    exact hB.2
  · exact hB
theorem pG {pl:bV} {o o':Oper} {e e':TypeId} {d:Nat} (h3:o.op=.alloc e) (h4:o'.op=.alloc e') (h5:o.dst=some d) (h6:o'.dst=some d):∀ (os:List Oper),jz pl (cy os)=true→∀ (i i':Nat),i<i'→os[i]?=some o→os[i']?=some o'→False:=by
  intro os
  induction os with
  | nil=>intro _ i i' _ h1; simp at h1
  | cons x xs ih =>
    intro hB i i' hlt h1 h2
    cases i' with
    | zero=>omega
    | succ i' =>
      rw [List.getElem?_cons_succ] at h2
      cases i with
      | zero =>
        rw [List.getElem?_cons_zero] at h1
        cases h1
        have hm:=tE h4 h6 (List.mem_of_getElem? h2)
        unfold cy at hB
        rw [h3,h5] at hB
        unfold jz at hB
        simp only [Bool.and_eq_true,Bool.not_eq_true'] at hB
        have:=zg (d:=d) (xs:=(cy xs).map (·.1)) (List.mem_map.2 ⟨_,hm,rfl⟩)
        rw [hB.1.2] at this
        cases this
      | succ i =>
        rw [List.getElem?_cons_succ] at h1
        exact ih (zh hB) i i' (by omega) h1 h2
theorem zi {o:Oper} {e:TypeId} (ho:o.op=.alloc e):∀ {os:List Oper},rM os=true→o∈os→o.guard=none:=by
  intro os
  induction os with
  | nil=>intro _ h; cases h
  | cons x xs ih =>
    intro h hm
    unfold rM at h
    simp only [Bool.and_eq_true] at h
    rcases List.mem_cons.1 hm with rfl | hm
    · have h1:=h.1
      cases hg:o.guard with
      | none=>rfl
      | some g=>rw [ho,hg] at h1; cases h1
    · exact ih h.2 hm
section
variable {G:Gh} {w:World} {a:Act} {P:Program}
theorem q9:∀ {ds:List Nat} {E:Env} {S:St} {K:St→Prop},ah G pn E S w→TR E S.t a→ln ds S K→∃ S' E',K S'∧ah G pn E' S' w∧TR E' S'.t a∧∀ d,(E.mu (.L d)=none∨d∈ds)→E'.mu (.L d)=none
  | [],E,S,K,hM,ht,h=>⟨S,E,h,hM,ht,fun d hd=>by rcases hd with hd | hd; exact hd; cases hd⟩
  | d::ds,E,S,K,hM,ht,h=>by
    unfold ln at h
    rw [vO] at h
    obtain ⟨E1,h1,h2,h3,_,_,_,_,h4,_,_⟩:=oe hM ht d rfl
    obtain ⟨S',E',h5,h6,h7,h8⟩:=q9 h1 h2 h
    refine ⟨S',E',h5,h6,h7,fun e he=>h8 e ?_⟩
    by_cases hed:e=d
    · subst hed; exact .inl h3
    · rcases he with he | he
      · exact .inl ((h4 e hed).trans he)
      · rcases List.mem_cons.1 he with he | he
        · exact absurd he hed
        · exact .inr he
theorem wo {pl:bV} {E:Env}:∀ {xs:List (Nat×TypeId)} {S:St} {p:Nat→Option (List AV)} {K:St→Prop},ah G p E S w→(∀ d∈xs.map (·.1),E.mu (.L d)=none)→jz pl xs=true→wV P xs S K →
    ∃ S' p',K S'∧ah G p' E S' w∧S'.t=S.t∧(∀ d e,(d,e)∈xs→∃ cs,p' d=some cs∧0<cs.length∧ZR P e cs)∧∀ d,d ∉ xs.map (·.1)→p' d=p d
  | [],S,p,K,hM,_,_,h=>⟨S,p,h,hM,rfl,fun _ _ h=>(by cases h),fun _ _=>rfl⟩
  | (d,e)::xs,S,p,K,hM,hmu,hB,h=>by
    unfold wV at h
    obtain ⟨cs,hz,h,hinv⟩:=tz h
    replace h:=ab h; obtain ⟨hpos,h⟩:=h
    have hpos':0<cs.length:=Nat.le_of_ble_eq_true hpos
    have hd0:=hmu d (by simp)
    unfold jz at hB
    simp only [Bool.and_eq_true,Bool.not_eq_true'] at hB
    have hnd:d ∉ xs.map (·.1):=fun hm=>by
      have:=zg hm
      rw [hB.1.2] at this
      cases this
    have hM1:ah G (fun x=>if x=d then some cs else p x) E { t:=S.t,l:=(d,cs)::S.l,o:=S.o,b:=S.b } w :=
      ⟨hM.hp,hM.os,hM.tape,hM.output,hM.size,hM.keep,hM.F0,hM.Flt,hM.Fnew,hM.own,hM.inj,fun x=>by
        show gj _ E (if d=x then some cs else aG S.l x) x
        by_cases hx:d=x
        · subst hx
          rw [if_pos rfl]
          exact .inr ⟨hd0,by simp,hinv⟩
        · rw [if_neg hx]
          exact (hM.loc x).congr (if_neg fun h=>hx h.symm),hM.obj,hM.old,hM.bl,hM.szs,fun x row hx=>by
        show E.mu (.L x)=none∧(if d=x then some cs else aG S.l x)=some row
        by_cases hxd:x=d
        · subst hxd
          rw [if_pos rfl] at hx ⊢
          exact ⟨hd0,hx⟩
        · rw [if_neg hxd] at hx
          rw [if_neg (fun h=>hxd h.symm)]
          exact hM.pk x row hx,hM.ow⟩
    obtain ⟨S',p',h1,h2,h3,h4,h5⟩:=wo (xs:=xs) hM1 (fun x hx=>hmu x (by simp only [List.map_cons]; exact List.mem_cons_of_mem _ hx)) hB.2 h
    refine ⟨S',p',h1,h2,h3,fun x y hxy=>?_,fun x hx=>?_⟩
    · rcases List.mem_cons.1 hxy with hxy | hxy
      · cases hxy
        refine ⟨cs,?_,hpos',hz⟩
        rw [h5 d hnd]
        simp
      · exact h4 x y hxy
    · have hx':x≠d∧x ∉ xs.map (·.1):=⟨fun he=>hx (by rw [he]; simp),fun hm=>hx (by simp only [List.map_cons]; exact List.mem_cons_of_mem _ hm)⟩
      rw [h5 x hx'.2]
      simp [hx'.1]
theorem wq:∀ {xs:List (Nat×TypeId)} {S:St} {X:Prop},jT xs S X→∀ d∈xs.map (·.1),∃ i j,S.t[d]?=some (.ptr (.L d) i j)
  | [],_,_,_,d,hd=>by cases hd
  | (d0,e)::xs,S,X,h,d,hd=>by
    unfold jT at h
    obtain ⟨c,hc,h⟩:=cr.1 h
    split at h
    · rename_i d' i j
      obtain ⟨hb,h⟩:=ab h
      simp only [List.map_cons] at hd
      rcases List.mem_cons.1 hd with rfl | hd
      · have:=Nat.eq_of_beq_eq_true hb
        subst this
        exact ⟨i,j,hc⟩
      · exact wq h d hd
    · exact False.elim h
end
theorem Bn {C:Ctx} (hmix:C.P.follows .mixedOrders=true) (hD:fV C) (hC:eh C):kK C:=by
  intro pl id ops S K h r G E a w Q hM ht hQ
  have h':bO (qL pl ops) (uW C.P (cy ops.toList) S fun S1=>uV C pl ops S1 fun S'=>jT (cy ops.toList) S' (jp pl id S' fun S''=>K .nrm S'')):=h
  obtain ⟨hB,h1⟩:=ab h'
  unfold qL at hB
  simp only [Bool.and_eq_true] at hB
  obtain ⟨hal,hgd⟩:=hB
  unfold uW at h1
  obtain ⟨S1,E1,h2,hM1,ht1,hmu⟩:=q9 hM ht h1
  obtain ⟨S2,p2,h3,hM2,ht2,hrow,hout⟩:=wo hM1 (fun d hd=>hmu d (.inr hd)) hal h2
  refine wpIn_region_any hmix ?_
  obtain ⟨hnd,h3⟩:=ab h3
  obtain ⟨hns,hnd⟩:=Dz hnd
  have hcl:Closed ops (Array.replicate ops.size false):=fun j hj=>by
    simp only [Array.getD_eq_getD_getElem?,Array.getElem?_replicate] at hj
    split at hj <;> simp at hj
  refine pF hnd _ _ _ _ ?_
  have h4:rv C pl ops (cg ops.toList []) ops.size (Array.replicate ops.size false) S2 (fun S'=>jT (cy ops.toList) S' (jp pl id S' fun S''=>K .nrm S''))∨za C pl ops (fun S'=>jT (cy ops.toList) S' (jp pl id S' fun S''=>K .nrm S'')) ops.size (Array.replicate ops.size false) S2:=by
    split at h3
    · exact .inr (pE hD _ _ _ hcl h3)
    · exact .inl h3
  have hap1:xz ops:=by
    intro i i' o o' e e' d h1 h2 h3 h4 h5 h6
    rcases Nat.lt_trichotomy i i' with hlt | heq | hlt
    · exact (pG h3 h4 h5 h6 _ hal i i' hlt (by rw [Array.getElem?_toList]; exact h1) (by rw [Array.getElem?_toList]; exact h2)).elim
    · exact heq
    · exact (pG h4 h3 h6 h5 _ hal i' i hlt (by rw [Array.getElem?_toList]; exact h2) (by rw [Array.getElem?_toList]; exact h1)).elim
  have hg1:∀ (i:Nat) (o:Oper) (e:TypeId),ops[i]?=some o→o.op=.alloc e→o.guard=none:=fun i o e h1 h2=>zi h2 hgd (List.mem_of_getElem? (by rw [Array.getElem?_toList]; exact h1))
  have hQ1:∀ p S' E' a' w',(∀ d,p d≠none→d∈(cy ops.toList).map (·.1))→jT (cy ops.toList) S' (jp pl id S' fun S''=>K .nrm S'')→ah G p E' S' w'→TR E' S'.t a'→Q0 Q .normal a' w':=by
    intro p S' E' a' w' hp hk hS htr
    refine ⟨rfl,?_⟩
    have hps:=wq hk
    have hpn:p=pn:=by
      funext d
      cases hd:p d with
      | none=>rfl
      | some row =>
        exfalso
        obtain ⟨i,j,hij⟩:=hps d (hp d (by rw [hd]; exact fun h=>by cases h))
        have hlt:d<a'.tmps.size:=by rw [← htr.len]; exact (List.getElem?_eq_some_iff.1 hij).1
        have hv:=htr.val d _ _ hij (Array.getElem?_eq_getElem hlt)
        have hne:∃ y,E'.mu (.L d)=some y:=by
          generalize a'.tmps[d]=u at hv
          cases hv with
          | ptr _ _ hs0 hm=>exact ⟨_,hm⟩
        obtain ⟨y,hy⟩:=hne
        have:=(hS.pk d row hd).1
        rw [hy] at this
        cases this
    subst hpn
    obtain ⟨S2,E2,h2,hS2,ht2⟩:=kw hS htr (k8 hk).1
    exact hQ .nrm _ E2 _ _ h2 hS2 ht2
  have hA1:∀ d,p2 d≠none→d∈(cy ops.toList).map (·.1):=by
    intro d hd
    cases Classical.em (d∈(cy ops.toList).map (·.1)) with
    | inl h=>exact h
    | inr h=>exact (hd ((hout d h).trans rfl)).elim
  have hI1:Inv C.P p2 ops (Array.replicate ops.size false):=by
    intro i o e d h1 h2 h3 _
    exact hrow d e (tE h2 h3 (List.mem_of_getElem? (by rw [Array.getElem?_toList]; exact h1)))
  rcases h4 with h4 | h4
  · exact tA hD hC hns hap1 hg1 hQ1 ops.size _ p2 S2 E1 a _ hA1 hM2.drawn (by rw [ht2]; exact ht1) hI1 hcl h4
  · exact lL hC hap1 hg1 hQ1 ops.size _ p2 S2 E1 a _ hA1 hM2.drawn (by rw [ht2]; exact ht1) hI1 h4
theorem AH {cfg:nW} (hX:Ho cfg) (hN:kY cfg.P) (hmix:cfg.P.follows .mixedOrders=true) (n:Nat):eh (fG cfg n)∧lD (fG cfg n)∧kK (fG cfg n) :=
  EO hX.pure hX.sound hN (Ar hX) (fun n h=>Bn (by rw [kL]; exact hmix) (k9 hX n) h) n
open Go.RowKit Go.WideShapes Go.ChangeShapes
section
variable {H:Type} {enc:TypeId×Value→H} {P:Program}
theorem vg {f:Func} {s:ChangeSpec} {apart fresh handsOn again:Bool} {W W':World} {args:Array Value} {v:Value} {ds gs:List (DataW H)} {before pa pv:List MemPlace}
    (hW:DataW.Whole enc P f.params.toList s.vars apart W args.toList ds gs before)
    (hres:∀ (b:Nat) (sp:Nat→Bool) (hd:Bool),DataW.TrodAll enc P W' b sp hd f.resultTypes.toList (v.resultList f.resultTypes.size) (s.fn H (ds++gs)).results [])
    (hargs:∀ sp:Nat→Bool,(∀ p∈before,sp p.block=true)→DataW.TrodAll enc P W' 0 sp true f.params.toList args.toList (s.fn H (ds++gs)).args pa)
    (hvars:∀ sp:Nat→Bool,(∀ p∈before,sp p.block=true)→DataW.TrodVars enc P W' sp s.vars (s.fn H (ds++gs)).vars pv)
    (hps:before=pa++pv) (hb:Below W.heap.size W W')
    (hok:∀ (j:Nat) (t:TypeId) (r:Value),f.resultTypes[j]?=some t→(v.resultList f.resultTypes.size)[j]?=some r→Value.okWide P W' .any 0 t r) :
    s.post enc P f apart fresh handsOn again W args v W':=by
  have hlt:∀ p∈before,p.block<W.heap.size:=fun p hp=>hW.lt p hp
  have hold:∀ p∈before,(fun b=>decide (b<W.heap.size)) p.block=true:=fun p hp=>by simpa using hlt p hp
  refine ⟨ds,gs,before,[],pa,pv,hW,hres _ _ _,hargs _ hold,hvars _ hold,World.keptBut_mono (fun p hp=>⟨hp,?_⟩) (hb.frame (·∈before)),fun _=>?_⟩
  · rw [hps,List.mem_append] at hp
    exact Or.inr hp
  · obtain ⟨_,_,_,_,_,hz,hn⟩:=hW
    refine ⟨hok,_,_,([]++pa)++pv,⟨[]++pa,pv,trodAll_append (hargs _ (fun _ _=>rfl)) (hres _ _ _),hvars _ (fun _ _=>rfl),rfl,?_,?_⟩,?_⟩
    · intro b off hp
      have hin:MemPlace.cell b off∈before:=by rw [hps]; simpa using hp
      rw [hb.frozen (hlt _ hin)]
      exact hz b off hin
    · intro ha
      have:=hn ha
      rw [hps] at this
      simpa using this
    · intro p hp _
      rw [hps]
      simpa using hp
end
theorem tH {P : Program} (h : (P.funcs.all fun fn => !(fn.name == "runtime.NumGoroutine")) = true) : kY P := by
  intro f fn hf
  have hlt:f<P.funcs.size:=(Array.getElem?_eq_some_iff.1 hf).1
  have:=Array.all_eq_true.1 h f hlt
  rw [Array.getElem?_eq_getElem hlt] at hf
  cases hf
  simpa using this
def iA (P:Program) (_pl:bV) (c:Code) (S:St) (K:Ex→St→Prop):Prop :=
  ∃ n e S',(∀ (r:Option Nat) (G:Gh) (E:Env) (a:Act) (w:World) (Q:Exit→Act→World→Prop),ah G pn E S w→TR E S.t a→Dm G (fun e' S''=>e'=e∧S''=S') Q→Code.roundsIn (rd r) 0 P c Q n a w)∧K e S'
def SD (P:Program) (f:Nat) (args:List AV) (o:List Ob) (K:AV→List Ob→Prop):Prop :=
  ∃ r o',ku P f args o (fun r' o''=>r'=r∧o''=o')∧K r o'
def ik (cfg:nW):Ctx:={ P:=cfg.P,pure:=cfg.pure,pol:=cfg.pol,pcall:=eM cfg.P,scall:=SD cfg.P,loop:=iA cfg.P }
theorem ku.mono {P:Program} {f:Nat} {args:List AV} {o:List Ob} {K K':AV→List Ob→Prop} (h:ku P f args o K) (hk:∀ r o',K r o'→K' r o'):ku P f args o K' :=
  ⟨h.1,fun E w us hM hg hv=>(h.2 E w us hM hg hv).mono fun _ _ ⟨v,r,o',E',h1,h2,h3,h4⟩=>⟨v,r,o',E',hk _ _ h1,h2,h3,h4⟩⟩
theorem SD.out {P:Program} {f:Nat} {args:List AV} {o:List Ob} {K:AV→List Ob→Prop} (h:SD P f args o K):ku P f args o K:=by
  obtain ⟨r,o',h1,h2⟩:=h
  exact h1.mono fun _ _ ⟨e1,e2⟩=>by rw [e1,e2]; exact h2
theorem jH (cfg:nW):eh (ik cfg):=⟨fun _ _ _ h=>h,fun _ _ _ _ h=>h.out⟩
theorem mU (cfg:nW):fV (ik cfg) :=
  ⟨fun _ _ _ ⟨r,h1,h2⟩=>⟨r,h2,fun _ h=>⟨r,h1,h⟩⟩,fun _ _ _ _ ⟨r,o',h1,h2⟩=>⟨r,o',h2,fun _ h=>⟨r,o',h1,h⟩⟩,fun _ _ _ _ ⟨n,e,S',h1,h2⟩=>⟨e,S',h2,fun _ h=>⟨n,e,S',h1,h⟩⟩⟩
theorem jI (cfg:nW):lD (ik cfg):=by
  rintro pl c S K ⟨n,e,S',h1,h2⟩ r G E a w Q hM ht hQ
  exact wpIn_loop_rounds n (h1 r G E a w Q hM ht fun e' S'' E' a' w' ⟨e1,e2⟩ hS htr=>by subst e1 e2; exact hQ _ _ _ _ _ h2 hS htr)
theorem k_ {cfg:nW} (hmix:cfg.P.follows .mixedOrders=true):kK (ik cfg):=Bn hmix (mU cfg) (jH cfg)
theorem iA.step {cfg:nW} (hmix:cfg.P.follows .mixedOrders=true) {pl:bV} {c:Code} {S:St} {K:Ex→St→Prop}
    (h:gi (ik cfg) pl c S fun e S'=>match e with
      | .nrm=>iA cfg.P pl c S' K
      | .ex i=>K (.ex i) S'
      | .ret=>K .ret S'):iA cfg.P pl c S K:=by
  obtain ⟨e1,S1,h1,h2⟩:=qu (mU cfg) c _ h
  have run:∀ (e:Ex) (S2:St) (n:Nat),(∀ (r:Option Nat) (G:Gh) (E:Env) (a:Act) (w:World) (Q:Exit→Act→World→Prop),ah G pn E S1 w→TR E S1.t a→Dm G (fun e' S''=>e'=e∧S''=S2) Q→Exit.then (Code.roundsIn (rd r) 0 cfg.P c Q n) Q (EM e1) a w) →
      ∀ (r:Option Nat) (G:Gh) (E:Env) (a:Act) (w:World) (Q:Exit→Act→World→Prop),ah G pn E S w→TR E S.t a→Dm G (fun e' S''=>e'=e∧S''=S2) Q→Code.roundsIn (rd r) 0 cfg.P c Q (n + 1) a w:=by
    intro e S2 n hn r G E a w Q hM ht hQ
    refine mK (jH cfg) (jI cfg) (k_ hmix) c (h2 (fun e' S'=>e'=e1∧S'=S1) ⟨rfl,rfl⟩) r G E a w _ hM ht (fun e' S' E' a' w' hk hS htr=>?_)
    obtain ⟨rfl,rfl⟩:=hk
    exact hn r G E' a' w' Q hS htr hQ
  cases e1 with
  | nrm =>
    obtain ⟨n,e,S',hl,hk⟩:=h1
    exact ⟨n + 1,e,S',run e S' n (fun r G E a w Q hM ht hQ=>hl r G E a w Q hM ht hQ),hk⟩
  | ex i=>exact ⟨1,.ex i,S1,run _ _ 0 (fun r G E a w Q hM ht hQ=>hQ _ _ _ _ _ ⟨rfl,rfl⟩ hM ht),h1⟩
  | ret=>exact ⟨1,.ret,S1,run _ _ 0 (fun r G E a w Q hM ht hQ=>hQ _ _ _ _ _ ⟨rfl,rfl⟩ hM ht),h1⟩
theorem eM.mono {P:Program} {f:Nat} {args:List AV} {K K':AV→Prop} (h:eM P f args K) (hk:∀ r,K r→K' r):eM P f args K' :=
  let ⟨r,h1,h2⟩:=h
  ⟨r,h1,hk _ h2⟩
theorem iA.mono {P:Program} {pl:bV} {c:Code} {S:St} {K K':Ex→St→Prop} (h:iA P pl c S K) (hk:∀ e S',K e S'→K' e S'):iA P pl c S K' :=
  let ⟨n,e,S',h1,h2⟩:=h
  ⟨n,e,S',h1,hk _ _ h2⟩
theorem SD.mono {P:Program} {f:Nat} {args:List AV} {o:List Ob} {K K':AV→List Ob→Prop} (h:SD P f args o K) (hk:∀ r o',K r o'→K' r o'):SD P f args o K' :=
  let ⟨r,o',h1,h2⟩:=h
  ⟨r,o',h1,hk _ _ h2⟩
theorem eM.of {cfg:nW} (hN:kY cfg.P) (hmix:cfg.P.follows .mixedOrders=true) {f:Nat} {args:List AV} {K:AV→Prop} (h:qN (ik cfg) f args K):eM cfg.P f args K :=
  q0 (jH cfg) (jI cfg) (k_ hmix) hN (fun f args K h=>by
    obtain ⟨r,h1,h2⟩:=qv (mU cfg) K h
    exact ⟨r,h1,h2 _ rfl⟩) h
theorem SD.of {cfg:nW} (hN:kY cfg.P) (hmix:cfg.P.follows .mixedOrders=true) {f:Nat} {args:List AV} {o:List Ob} {K:AV→List Ob→Prop} (h:mz (ik cfg) f args o K):SD cfg.P f args o K:=by
  obtain ⟨r,o',h1,h2⟩:=tl (mU cfg) K h
  exact ⟨r,o',lE (jH cfg) (jI cfg) (k_ hmix) hN (h2 _ ⟨rfl,rfl⟩),h1⟩
theorem AI {P:Program} {f:Nat} {args:List AV} (h:eM P f args fun x=>x=.v (.bool true)) (F:Nat→Prop) (w:World) (us:Array Value) (hF:∀ b,F b→b<w.heap.size) (hg:sB ⟨F,fun _=>none,w.heap⟩) (hv:cq ⟨F,fun _=>none,w.heap⟩ args us.toList) :
    Calls P f us w fun e w'=>e=.returned (.bool true)∧Go.RowKit.Below w.heap.size w w':=by
  obtain ⟨r,⟨_,h4⟩,rfl⟩:=h
  refine (h4 F w us hF hg hv).mono ?_
  rintro e w' ⟨v,F',rfl,hv,hb,_⟩
  exact ⟨by rw [hv.vI.1],hb⟩
open Go.ChangeShapes Go.WideShapes
def xA (P:Program):List Field→Nat→Bool
  | [],_=>true
  | f::fs,k=>Nat.beq f.offset k&&xA P fs (k + P.cellsOf f.type)
def q_ (P:Program):Nat→TypeId→Bool
  | 0,_=>false
  | n + 1,t =>
    match P.underlying t with
    | some .bool | some (.int _) | some .string=>true
    | some (.slice e)=>Nat.blt 0 (P.cellsOf e)&&q_ P n e
    | some (.struct fs)=>xA P fs.toList 0&&Nat.beq (fs.toList.foldl (fun s f=>s + P.cellsOf f.type) 0) (P.cellsOf t)&&fs.toList.all fun f=>q_ P n f.type
    | _=>false
def dH {H:Type} (P:Program):Nat→TypeId→DataW H→Bool
  | 0,_,_=>false
  | n + 1,t,d =>
    match P.underlying t,d with
    | some .bool,.lit (.bool _)=>true
    | some (.int k),.lit (.int k' m)=>decide (k'=k)&&(Lit.int k m).wf
    | some .string,.lit (.string bs)=>decide (bs.length≤maxLen)
    | some (.slice _),.nil=>true
    | some (.slice e),.slice xs _=>decide (xs.length≤maxLen)&&xs.all (dH P n e)
    | some (.struct fs),.agg ds=>Nat.beq ds.length fs.size&&(fs.toList.zip ds).all fun x=>dH P n x.1.type x.2
    | _,_=>false
def gG {H:Type} (P:Program):Nat→TypeId→DataW H→List AV
  | 0,_,_=>[]
  | n + 1,t,d =>
    match P.underlying t,d with
    | some .bool,.lit (.bool b)=>[.v (.bool b)]
    | some (.int k),.lit (.int _ m)=>[.v (.int k m)]
    | some .string,.lit (.string bs)=>[.v (.string ⟨bs.toArray⟩)]
    | some (.slice _),.nil=>[.nilsl]
    | some (.slice e),.slice xs _=>[.sl (xs.map (gG P n e))]
    | some (.struct fs),.agg ds=>(fs.toList.zip ds).flatMap fun x=>gG P n x.1.type x.2
    | _,_=>[]
def rF (w:World):Env:=⟨fun b=>b<w.heap.size,fun _=>none,w.heap⟩
theorem tJ {α β:Type} {f:α→Option β}:∀ {xs:List α} {ys:List β},xs.mapM f=some ys→xs.length=ys.length∧∀ (i:Nat) (x:α),xs[i]?=some x→∃ y,ys[i]?=some y∧f x=some y
  | [],ys,h=>by
    simp at h
    subst h
    exact ⟨rfl,fun i x h=>by simp at h⟩
  | x::xs,ys,h=>by
    rw [List.mapM_cons] at h
    simp only [Option.pure_def,Option.bind_eq_bind,Option.bind_eq_some_iff,Option.some.injEq] at h
    obtain ⟨y,hy,ys',hys,rfl⟩:=h
    obtain ⟨h1,h2⟩:=tJ hys
    refine ⟨by simp [h1],fun i z hz=>?_⟩
    cases i with
    | zero =>
      simp only [List.getElem?_cons_zero,Option.some.injEq] at hz
      subst hz
      exact ⟨y,rfl,hy⟩
    | succ i=>exact h2 i z (by simpa using hz)
theorem oL {w:World} {a:Addr} {v:Value} (h:w.cell? a=some v):a.spot=none∧a.block<w.heap.size∧dZ w.heap a.block a.off=some v:=by
  unfold World.cell? at h
  split at h
  · rename_i c t fr hb
    split at h
    · cases h
    · rename_i hs
      refine ⟨by simpa using hs,(Array.getElem?_eq_some_iff.1 hb).1,?_⟩
      unfold dZ
      rw [hb]
      exact h
  · cases h
theorem tK (P:Program):∀ (fs:List Field) (k:Nat),fs.foldl (fun s f=>s + P.cellsOf f.type) k=k + fs.foldl (fun s f=>s + P.cellsOf f.type) 0
  | [],k=>by simp
  | f::fs,k=>by
    rw [List.foldl_cons,List.foldl_cons,tK P fs (k + _),tK P fs (0 + _)]
    omega
theorem tO {α:Type} {sz:Nat}:∀ {rows:List (List α)} {m:Nat} {c:α},0<sz→(∀ r∈rows,r.length=sz)→rows.flatten[m]?=some c→∃ r,rows[m / sz]?=some r∧r[m % sz]?=some c
  | [],m,c,_,_,h=>by simp at h
  | r::rs,m,c,hs,hr,h=>by
    have h0:=hr r List.mem_cons_self
    rw [List.flatten_cons] at h
    by_cases hm:m<sz
    · rw [List.getElem?_append_left (by omega)] at h
      refine ⟨r,?_,?_⟩
      · rw [Nat.div_eq_of_lt hm]; rfl
      · rw [Nat.mod_eq_of_lt hm]; exact h
    · rw [List.getElem?_append_right (by omega),h0] at h
      obtain ⟨r',h1,h2⟩:=tO (rows:=rs) hs (fun r h=>hr r (List.mem_cons_of_mem _ h)) h
      have e1:m / sz=(m - sz) / sz + 1:=by
        rw [← Nat.add_div_right _ hs]
        congr 1
        omega
      have e2:m % sz=(m - sz) % sz:=by
        rw [Nat.mod_eq_sub_mod (by omega)]
      rw [e1,e2,List.getElem?_cons_succ]
      exact ⟨r',h1,h2⟩
section
variable {H:Type} {enc:TypeId×Value→H} {P:Program} {w:World} {sp:Nat→Bool}
theorem ES:(rF w).fz=rF w:=rfl
theorem wt {n:Nat} {base:Nat} {fuel:Nat} (ih:∀ {fuel:Nat} {t:TypeId} {cs:List Value} {d:DataW H} {ps:List MemPlace},q_ P n t=true→cs.length=P.cellsOf t→DataW.trod enc P w base sp true fuel t cs=some (d,ps)→dH P n t d=true∧cq (rF w) (gG P n t d) cs) :
    ∀ (fs:List Field) (k:Nat) (cs:List Value) (xs:List (DataW H×List MemPlace)),xA P fs k=true→k + fs.foldl (fun s f=>s + P.cellsOf f.type) 0=cs.length→(fs.all fun f=>q_ P n f.type)=true →
      fs.mapM (fun f=>DataW.trod enc P w base sp true fuel f.type ((cs.drop f.offset).take (P.cellsOf f.type)))=some xs →
      ((fs.zip (xs.map (·.1))).all fun x=>dH P n x.1.type x.2)=true∧cq (rF w) ((fs.zip (xs.map (·.1))).flatMap fun x=>gG P n x.1.type x.2) (cs.drop k)
  | [],k,cs,xs,_,hl,_,h=>by
    simp at h
    subst h
    simp at hl
    refine ⟨rfl,?_⟩
    rw [List.drop_eq_nil_of_le (by omega)]
    exact .nil _
  | f::fs,k,cs,xs,hc,hl,hg,h=>by
    rw [List.mapM_cons] at h
    simp only [Option.pure_def,Option.bind_eq_bind,Option.bind_eq_some_iff,Option.some.injEq] at h
    obtain ⟨y,hy,ys,hys,rfl⟩:=h
    unfold xA at hc
    simp only [Bool.and_eq_true] at hc
    have hoff:=Nat.eq_of_beq_eq_true hc.1
    simp only [List.all_cons,Bool.and_eq_true] at hg
    rw [List.foldl_cons,tK] at hl
    rw [hoff] at hy
    have hlen:((cs.drop k).take (P.cellsOf f.type)).length=P.cellsOf f.type:=by simp; omega
    obtain ⟨h1,h2⟩:=ih (ps:=y.2) hg.1 hlen hy
    obtain ⟨h3,h4⟩:=wt ih fs (k + P.cellsOf f.type) cs ys hc.2 (by omega) hg.2 hys
    refine ⟨by simp [h1,h3],?_⟩
    show cq _ (gG P n f.type y.1++_) _
    have:=h2.append h4
    rw [← List.drop_drop,List.take_append_drop] at this
    exact this
theorem rS {base:Nat}:∀ (n:Nat) {fuel:Nat} {t:TypeId} {cs:List Value} {d:DataW H} {ps:List MemPlace},q_ P n t=true→cs.length=P.cellsOf t→DataW.trod enc P w base sp true fuel t cs=some (d,ps)→dH P n t d=true∧cq (rF w) (gG P n t d) cs
  | 0,_,_,_,_,_,h,_,_=>by cases h
  | n + 1,0,_,_,_,_,_,_,h=>by simp [DataW.trod] at h
  | n + 1,fuel + 1,t,cs,d,ps,hg,hlen,h=>by
    have one:∀ {c:AV} {u:Value},VR (rF w) c u→cq (rF w) [c] [u]:=fun h=>.cons h (.nil _)
    unfold q_ at hg
    unfold DataW.trod at h
    split at hg
    · rename_i hu
      rw [hu] at h
      split at h <;> first | (simp_all; done) | skip
      rename_i b _ _
      simp only [Option.some.injEq,Prod.mk.injEq] at h
      obtain ⟨rfl,_⟩:=h
      refine ⟨by unfold dH; rw [hu],?_⟩
      unfold gG
      rw [hu]
      exact one (.v _ _ rfl)
    · rename_i k hu
      rw [hu] at h
      split at h <;> first | (simp_all; done) | skip
      rename_i k' kk m e2
      cases e2
      split at h
      · rename_i hk
        simp only [Option.some.injEq,Prod.mk.injEq] at h
        obtain ⟨rfl,_⟩:=h
        obtain ⟨hkk,hwf⟩:=hk
        subst hkk
        refine ⟨by unfold dH; rw [hu]; simp [hwf],?_⟩
        unfold gG
        rw [hu]
        exact one (.v _ _ rfl)
      · cases h
    · rename_i hu
      rw [hu] at h
      split at h <;> first | (simp_all; done) | skip
      rename_i s e2
      split at h
      · rename_i hs
        simp only [Option.some.injEq,Prod.mk.injEq] at h
        obtain ⟨rfl,_⟩:=h
        refine ⟨by unfold dH; rw [hu]; simpa using hs,?_⟩
        unfold gG
        rw [hu]
        have:(⟨s.data.toList.toArray⟩:ByteArray)=s:=by cases s; simp
        dsimp only
        rw [this]
        exact one (.v _ _ rfl)
      · cases h
    · rename_i e hu
      simp only [Bool.and_eq_true] at hg
      have hsz:0<P.cellsOf e:=Nat.le_of_ble_eq_true hg.1
      rw [hu] at h
      split at h <;> first | (simp_all; done) | skip
      · simp only [Option.some.injEq,Prod.mk.injEq] at h
        obtain ⟨rfl,_⟩:=h
        refine ⟨by unfold dH; rw [hu],?_⟩
        unfold gG
        rw [hu]
        exact one (.nilsl _)
      · rename_i e0 a len cap e2
        cases e2
        dsimp only at h
        split at h
        · rename_i hb
          simp only [Option.bind_eq_some_iff,Option.map_eq_some_iff,Prod.mk.injEq] at h
          obtain ⟨elems,he,rest,_,rfl,_⟩:=h
          obtain ⟨hl1,hget⟩:=tJ he
          simp only [List.length_range] at hl1
          have hel:∀ (i:Nat) (y:DataW H×List MemPlace),elems[i]?=some y→∃ cs',(w.cells? base (a.add (i * P.cellsOf e)) (P.cellsOf e))=some cs'∧dH P n e y.1=true∧cq (rF w) (gG P n e y.1) cs':=by
            intro i y hy
            have hi:i<len:=by rw [hl1]; exact (List.getElem?_eq_some_iff.1 hy).1
            obtain ⟨y',hy',hf⟩:=hget i i (by simp [hi])
            rw [hy] at hy'
            cases hy'
            simp only [Option.bind_eq_some_iff] at hf
            obtain ⟨cs',hc,ht⟩:=hf
            have hcl:=(World.cells?_some hc).2.1
            obtain ⟨h1,h2⟩:=rS n (ps:=y.2) hg.2 hcl ht
            exact ⟨cs',hc,h1,h2⟩
          refine ⟨?_,?_⟩
          · unfold dH
            rw [hu]
            simp only [Bool.and_eq_true,decide_eq_true_eq,List.length_map,List.all_eq_true,List.mem_map]
            refine ⟨by omega,?_⟩
            rintro x ⟨y,hy,rfl⟩
            obtain ⟨i,hi,hiy⟩:=List.getElem_of_mem hy
            obtain ⟨cs',_,h1,_⟩:=hel i y (by rw [List.getElem?_eq_getElem hi,hiy])
            exact h1
          · unfold gG
            rw [hu]
            refine one ?_
            cases hlen0:len with
            | zero =>
              have:elems=[]:=List.eq_nil_of_length_eq_zero (by omega)
              rw [this]
              exact .sle _ a cap
            | succ len' =>
              have hrow:∀ (i:Nat) (y:DataW H×List MemPlace),elems[i]?=some y→∃ cs',cs'.length=P.cellsOf e∧cq (rF w) (gG P n e y.1) cs'∧∀ j,j<P.cellsOf e→w.cell? ((a.add (i * P.cellsOf e)).add j)=cs'[j]?:=by
                intro i y hy
                obtain ⟨cs',hc,_,h2⟩:=hel i y hy
                obtain ⟨_,h3,h4⟩:=World.cells?_some hc
                exact ⟨cs',h3,h2,h4⟩
              obtain ⟨y0,hy0⟩:∃ y0,elems[0]?=some y0:=⟨elems[0]'(by omega),List.getElem?_eq_getElem (by omega)⟩
              obtain ⟨c0,hc0,_,hat0⟩:=hrow 0 y0 hy0
              have h00:=hat0 0 hsz
              simp only [Nat.zero_mul,Addr.add,if_pos] at h00
              have hv0:c0[0]?=some (c0[0]'(by omega)):=List.getElem?_eq_getElem (by omega)
              rw [hv0] at h00
              obtain ⟨hspot,hblk,_⟩:=oL h00
              obtain ⟨b,off,spot⟩:=a
              simp only at hspot hblk
              subst hspot
              have hadd:∀ x,(⟨b,off,none⟩:Addr).add x=⟨b,off + x,none⟩:=fun x=>by unfold Addr.add; split <;> simp_all
              have hrl:∀ r∈(elems.map (·.1)).map (gG P n e),r.length=P.cellsOf e:=by
                intro r hr
                simp only [List.map_map,List.mem_map] at hr
                obtain ⟨y,hy,rfl⟩:=hr
                obtain ⟨i,hi,hiy⟩:=List.getElem_of_mem hy
                obtain ⟨cs',h1,h2,_⟩:=hrow i y (by rw [List.getElem?_eq_getElem hi,hiy])
                exact h2.1.trans h1
              have hfl:((elems.map (·.1)).map (gG P n e)).flatten.length=len * P.cellsOf e:=by
                have:∀ (rows:List (List AV)),(∀ r∈rows,r.length=P.cellsOf e)→rows.flatten.length=rows.length * P.cellsOf e:=by
                  intro rows
                  induction rows with
                  | nil=>intro _; simp
                  | cons r rs ih=>intro hr; rw [List.flatten_cons,List.length_append,ih (fun r h=>hr r (List.mem_cons_of_mem _ h)),hr r List.mem_cons_self,List.length_cons,Nat.succ_mul]; omega
                rw [this _ hrl]
                simp [hl1]
              have hcell:∀ m,m<len * P.cellsOf e→∃ u,dZ w.heap b (off + m)=some u:=by
                intro m hm
                have hi:m / P.cellsOf e<len:=(Nat.div_lt_iff_lt_mul hsz).2 hm
                have hj:m % P.cellsOf e<P.cellsOf e:=Nat.mod_lt _ hsz
                obtain ⟨y,hy⟩:∃ y,elems[m / P.cellsOf e]?=some y:=⟨elems[m / P.cellsOf e]'(by omega),List.getElem?_eq_getElem (by omega)⟩
                obtain ⟨cs',h1,h2,h3⟩:=hrow _ y hy
                have h4:=h3 _ hj
                have hv:cs'[m % P.cellsOf e]?=some (cs'[m % P.cellsOf e]'(by omega)):=List.getElem?_eq_getElem (by omega)
                rw [hv,hadd] at h4
                have hadd2:∀ x y,(⟨b,x,none⟩:Addr).add y=⟨b,x + y,none⟩:=fun x y=>by unfold Addr.add; split <;> simp_all
                rw [hadd2] at h4
                obtain ⟨_,_,h5⟩:=oL h4
                have ee:off + m / P.cellsOf e * P.cellsOf e + m % P.cellsOf e=off + m:=by
                  have:=Nat.div_add_mod m (P.cellsOf e)
                  rw [Nat.mul_comm] at this
                  omega
                simp only [ee] at h5
                exact ⟨_,h5⟩
              have hus:=VR.sl (E:=rF w) (rows:=(elems.map (·.1)).map (gG P n e)) (sz:=P.cellsOf e) (b:=b) (o:=off) (cap:=cap)
                ((List.range (len * P.cellsOf e)).map fun m=>(dZ w.heap b (off + m)).getD undef) hsz hrl (by rw [hfl]; simp) (fun m c u h1 h2=>?_) hblk (fun m u hu'=>?_) (by simp; omega)
              · have e1:((elems.map (·.1)).map (gG P n e)).length=len' + 1:=by simp; omega
                rw [e1] at hus
                exact hus
              · rw [ES]
                obtain ⟨r,h3,h4⟩:=tO hsz hrl h1
                rw [List.getElem?_map,List.getElem?_map,Option.map_eq_some_iff] at h3
                obtain ⟨x,h3,rfl⟩:=h3
                rw [Option.map_eq_some_iff] at h3
                obtain ⟨y,hy,rfl⟩:=h3
                obtain ⟨cs',h5,h6,h7⟩:=hrow _ y hy
                obtain ⟨u',hu1,hu2⟩:=h6.get h4
                have hj:m % P.cellsOf e<P.cellsOf e:=Nat.mod_lt _ hsz
                have h8:=h7 _ hj
                have hadd2:∀ x y,(⟨b,x,none⟩:Addr).add y=⟨b,x + y,none⟩:=fun x y=>by unfold Addr.add; split <;> simp_all
                rw [hu1,hadd,hadd2] at h8
                obtain ⟨_,_,h9⟩:=oL h8
                have ee:off + m / P.cellsOf e * P.cellsOf e + m % P.cellsOf e=off + m:=by
                  have:=Nat.div_add_mod m (P.cellsOf e)
                  rw [Nat.mul_comm] at this
                  omega
                simp only [ee] at h9
                have hm:m<len * P.cellsOf e:=by rw [← hfl]; exact (List.getElem?_eq_some_iff.1 h1).1
                rw [List.getElem?_map,List.getElem?_range hm] at h2
                simp only [Option.map_some,h9,Option.getD_some,Option.some.injEq] at h2
                subst h2
                exact hu2
              · have hm:m<len * P.cellsOf e:=by
                  have:=(List.getElem?_eq_some_iff.1 hu').1
                  simpa using this
                rw [List.getElem?_map,List.getElem?_range hm] at hu'
                obtain ⟨u',h5⟩:=hcell m hm
                simp only [Option.map_some,h5,Option.getD_some,Option.some.injEq] at hu'
                subst hu'
                exact h5
        · cases h
    · rename_i fs hu
      simp only [Bool.and_eq_true] at hg
      rw [hu] at h
      split at h <;> first | (simp_all; done) | skip
      rename_i fs0 e1
      cases e1
      rw [if_pos hlen] at h
      simp only [Option.map_eq_some_iff,Prod.mk.injEq] at h
      obtain ⟨xs,hx,rfl,_⟩:=h
      have hsum:=Nat.eq_of_beq_eq_true hg.1.2
      obtain ⟨h1,h2⟩:=wt (n:=n) (base:=base) (fuel:=fuel) (fun hg hl ht=>rS n hg hl ht) fs.toList 0 _ xs hg.1.1 (by omega) hg.2 hx
      obtain ⟨hl1,_⟩:=tJ hx
      refine ⟨?_,?_⟩
      · unfold dH
        rw [hu]
        simp only [Bool.and_eq_true]
        exact ⟨by simp at hl1; simp [hl1],h1⟩
      · unfold gG
        rw [hu]
        simpa using h2
    · cases hg
end
def nL {H:Type} (P:Program) (n:Nat) (t:TypeId) (d:DataW H):AV :=
  match P.underlying t with
  | some (.struct _)=>.agg (gG P n t d)
  | _=>(gG P n t d).headD .bad
def j8 (P:Program) (t:TypeId):Bool :=
  match P.underlying t with
  | some (.struct _)=>true
  | _=>false
def Bo (P:Program) (n:Nat) (t:TypeId):Bool:=q_ P n t&&(j8 P t||Nat.beq (P.cellsOf t) 1)
section
variable {H:Type} {enc:TypeId×Value→H} {P:Program} {W W':World}
theorem Gp {n:Nat} {t:TypeId} {v:Value} {d:DataW H} {p:List MemPlace} {base:Nat} (hg:Bo P n t=true) (hv:Value.okWide P W .any base t v) (h:DataW.Trod enc P W 0 (fun _=>true) true t v d p) :
    dH P n t d=true∧VR (rF W) (nL P n t d) v:=by
  unfold Bo at hg
  simp only [Bool.and_eq_true,Bool.or_eq_true] at hg
  obtain ⟨fuel,hf⟩:=h
  cases hs:j8 P t with
  | true =>
    unfold j8 at hs
    split at hs
    · rename_i fs hu
      unfold Value.okWide at hv
      rw [hu] at hv
      obtain ⟨cs,rfl,hsz,_⟩:=hv
      have hc:(Value.agg cs).cells.toList=cs.toList:=rfl
      rw [hc] at hf
      obtain ⟨h1,h2⟩:=rS (base:=0) n (ps:=p) hg.1 (by simpa using hsz) hf
      refine ⟨h1,?_⟩
      unfold nL
      rw [hu]
      exact h2.aggV
    · cases hs
  | false =>
    have hc1:P.cellsOf t=1:=by
      rcases hg.2 with h | h
      · rw [hs] at h; cases h
      · exact Nat.eq_of_beq_eq_true h
    have hone:v.cells.toList=[v]:=by
      have hns:∀ fs,P.underlying t≠some (.struct fs):=fun fs he=>by unfold j8 at hs; rw [he] at hs; cases hs
      have hgt:=hg.1
      cases v with
      | agg cs =>
        exfalso
        cases n with
        | zero=>cases hgt
        | succ n =>
          unfold q_ at hgt
          unfold Value.okWide at hv
          split at hgt
          · rename_i hu; rw [hu] at hv; simp [Cell.okWide,Cell.ok,hu] at hv
          · rename_i k hu; rw [hu] at hv; simp [Cell.okWide,Cell.ok,hu] at hv
          · rename_i hu; rw [hu] at hv; simp [Cell.okWide,Cell.ok,hu] at hv
          · rename_i e hu; rw [hu] at hv; simp [Cell.okWide,Cell.ok,hu] at hv
          · rename_i fs hu; exact hns fs hu
          · cases hgt
      | _=>rfl
    rw [hone] at hf
    obtain ⟨h1,h2⟩:=rS (base:=0) n (ps:=p) hg.1 (by rw [hc1]; rfl) hf
    refine ⟨h1,?_⟩
    have hav:nL P n t d=(gG P n t d).headD .bad:=by
      unfold nL
      unfold j8 at hs
      split at hs
      · cases hs
      · rfl
    rw [hav]
    cases he:gG P n t d with
    | nil=>exact .bad _ _
    | cons c cs =>
      rw [he] at h2
      exact h2.2 0 c v rfl rfl
theorem Bp {n base:Nat}:∀ {ts:List TypeId} {vs:List Value} {ds:List (DataW H)} {p:List MemPlace},(ts.all (Bo P n))=true→(∀ (j:Nat) (t:TypeId) (v:Value),ts[j]?=some t→vs[j]?=some v→Value.okWide P W .any base t v) →
    DataW.TrodAll enc P W 0 (fun _=>true) true ts vs ds p→ds.length=ts.length∧((ts.zip ds).all fun x=>dH P n x.1 x.2)=true∧cq (rF W) ((ts.zip ds).map fun x=>nL P n x.1 x.2) vs
  | [],[],[],_,_,_,_=>⟨rfl,rfl,.nil _⟩
  | t::ts,v::vs,d::ds,_,hg,hv,h=>by
    obtain ⟨p,q,h1,h2,_⟩:=h
    simp only [List.all_cons,Bool.and_eq_true] at hg
    obtain ⟨h3,h4⟩:=Gp hg.1 (hv 0 t v rfl rfl) h1
    obtain ⟨h5,h6,h7⟩:=Bp hg.2 (fun j t v e1 e2=>hv (j + 1) t v (by simpa using e1) (by simpa using e2)) h2
    exact ⟨by simp [h5],by simp [h3,h6],.cons h4 h7⟩
  | [],[],_::_,_,_,_,h=>by cases h
  | [],_::_,_,_,_,_,h=>by cases h
  | _::_,[],_,_,_,_,h=>by cases h
  | _::_,_::_,[],_,_,_,h=>by cases h
theorem wu {sp:Nat→Bool} (hl:laidOutB P=true):∀ {ts:List TypeId} {vs:List Value} {ds:List (DataW H)} {p:List MemPlace},(ts.all fun t=>P.readableRec t&&decide (t<P.types.size))=true →
    DataW.TrodAll enc P W 0 (fun _=>true) true ts vs ds p→Below W.heap.size W W'→(∀ x∈p,x.block<W.heap.size)→(∀ x∈p,sp x.block=true)→DataW.TrodAll enc P W' 0 sp true ts vs ds p
  | [],[],[],_,_,h,_,_,_=>h
  | t::ts,v::vs,d::ds,_,hg,h,hb,hlt,hsp=>by
    obtain ⟨p,q,h1,h2,rfl⟩:=h
    simp only [List.all_cons,Bool.and_eq_true,decide_eq_true_eq] at hg
    refine ⟨p,q,Go.WideElems.Trod_stays hl hg.1.1 hg.1.2 h1 (fun x hx=>hb.same (hlt x (List.mem_append.2 (.inl hx)))) (fun x hx=>hsp x (List.mem_append.2 (.inl hx))),?_,rfl⟩
    exact wu hl hg.2 h2 hb (fun x hx=>hlt x (List.mem_append.2 (.inr hx))) (fun x hx=>hsp x (List.mem_append.2 (.inr hx)))
  | [],[],_::_,_,_,h,_,_,_=>by cases h
  | [],_::_,_,_,_,h,_,_,_=>by cases h
  | _::_,[],_,_,_,h,_,_,_=>by cases h
  | _::_,_::_,[],_,_,h,_,_,_=>by cases h
end
end A
end Go.Proofs.Ytcckeabholabcaa
