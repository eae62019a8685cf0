/- Orders that are open; contracts; arguments read as data. Nothing is claimed here of the program. -/
import Derived.Test.YteafbimadlcljaaDoorK5
import Derived.Still
import Derived.WalkKit
import Derived.ProofKit
import Derived.OpenShut
import Derived.LoopNIn
import Derived.DataReads
import Derived.Carry
import Derived.WideKeyArgs
namespace Go.Proofs.YteafbimadlcljaaDoor
namespace A
open Go
theorem kE:∀ {xs:List (Nat×TypeId)} {S:St} {X:Prop},jb xs S X→X∧∀ X',X'→jb xs S X'
  | [],_,_,h=>⟨h,fun _ h=>h⟩
  | (d,e)::xs,S,X,h=>by
    obtain ⟨a,h1,h2⟩:=bW.1 h
    split at h2
    · rename_i d' i j
      obtain ⟨hb,h2⟩:=ad h2
      obtain ⟨h3,h4⟩:=kE h2
      refine ⟨h3,fun X' h=>bW.2 ⟨_,h1,?_⟩⟩
      exact ap hb (h4 X' h)
    · exact False.elim h2
theorem eN {C:Ctx} (hC:fk C) {pl:bA} {aj:Array Oper} {i:Nat} {S:St}:av (u5 C pl aj i S):=by
  show av (fun K:St→Prop=>u5 C pl aj i S K)
  unfold u5
  split
  · exact av.failN
  · exact B9 hC
theorem Bc {S2 S1:St} {X:(St→Prop)→Prop} (h:av X):av (fun K=>qS S2 S1 (X K)):=by
  unfold qS
  split
  · exact h
  · exact fun K hk=>by
      obtain ⟨r,h1,h2⟩:=h K hk.2
      exact ⟨r,h1,fun K' hk'=>⟨hk.1,h2 K' hk'⟩⟩
theorem x7 {go:Nat→(St→Prop)→Prop} (hg:∀ i,av (go i)):∀ (is:List Nat) (S1:St),av (fun K:St→Prop=>yR go is S1 (K S1))
  | [],S1=>av.ret S1
  | i::is,S1=>by
    show av (fun K:St→Prop=>go i fun S2=>qS S2 S1 (yR go is S1 (K S1)))
    exact av.bind (hg i) (fun S2=>Bc (x7 hg is S1))
theorem eB {C:Ctx} (hC:fk C) {pl:bA} {aj:Array Oper} {ws:List Nat}:∀ (n:Nat) (listed:Array Bool) (S:St),av (iq C pl aj ws n listed S)
  | 0,listed,S=>by
    show av (fun K:St→Prop=>iq C pl aj ws 0 listed S K)
    unfold iq
    split
    · exact av.ret S
    · exact av.failN
  | n + 1,listed,S=>by
    show av (fun K:St→Prop=>iq C pl aj ws (n + 1) listed S K)
    unfold iq
    split
    · exact av.ret S
    · split
      · exact av.bind (eN hC) (fun S'=>eB hC n _ S')
      · refine av.bind (eN hC) (fun S'=>av.bind (eB hC n _ S') (fun S1=>?_))
        exact x7 (fun i=>av.bind (eN hC) (fun S'=>eB hC n _ S')) _ S1
theorem x8 {C:Ctx} (hC:fk C) {pl:bA} {aj:Array Oper} {ws:List Nat}:∀ (n:Nat) (listed:Array Bool) (S:St),av (ry C pl aj ws n listed S)
  | 0,listed,S=>eB (pl:=pl) (ws:=ws) hC 0 listed S
  | n + 1,listed,S=>by
    show av (fun K:St→Prop=>ry C pl aj ws (n + 1) listed S K)
    unfold ry
    split
    · exact av.bind (eN hC) (fun S'=>x8 hC n _ S')
    · exact eB hC _ _ _
theorem s9 {C:Ctx} (hC:fk C) {pl:bA} {aj:Array Oper} {S:St}:av (ut C pl aj S):=by
  show av (fun K:St→Prop=>ut C pl aj S K)
  unfold ut
  refine av.chk ?_
  split
  · exact eB hC _ _ _
  · exact x8 hC _ _ _
theorem qB {C:Ctx} (hC:fk C) {pl:bA}:∀ (c:Code) {S:St},ar (fG C pl c S):=by
  intro c
  induction c with
  | skip=>exact ar.ret Ex.nrm _
  | region id aj draw =>
    intro S
    cases draw with
    | false =>
      show ar (fun (K:Ex→St→Prop)=>qh C pl aj aj.toList S fun S'=>iL pl id S' fun S''=>K .nrm S'')
      exact av.bind2 (jm hC _ _) (fun S'=>av.bind2 mR (fun S''=>ar.ret Ex.nrm S''))
    | true =>
      show ar (fun (K:Ex→St→Prop)=>bw (qT pl aj) (uu C.P (ca aj.toList) S fun S1=>ut C pl aj S1 fun S'=>jb (ca aj.toList) S' (iL pl id S' fun S''=>K .nrm S'')))
      refine ar.chk (av.bind2 s8 (fun S1=>av.bind2 (s9 hC) (fun S'=>?_)))
      intro K h
      obtain ⟨h1,h2⟩:=kE h
      obtain ⟨S'',h3,h4⟩:=mR _ h1
      exact ⟨_,_,h3,fun K' hk=>h2 _ (h4 _ hk)⟩
  | seq x y ihx ihy =>
    intro S
    show ar (fun (K:Ex→St→Prop)=>fG C pl x S fun e S'=>match e with
      | .nrm=>fG C pl y S' K
      | .ex i=>K (.ex i) S'
      | .ret=>K .ret S')
    refine ar.bind2 ihx (fun e S'=>?_)
    cases e with
    | nrm=>exact ihy
    | ex i=>exact ar.ret _ _
    | ret=>exact ar.ret _ _
  | cond c x y ihx ihy =>
    intro S
    show ar (fun (K:Ex→St→Prop)=>lV c S fun b S'=>match b with
      | true=>fG C pl x S' K
      | false=>fG C pl y S' K)
    refine ar.bind2 zi (fun b S'=>?_)
    cases b with
    | true=>exact ihx
    | false=>exact ihy
  | block id c ih =>
    intro S
    show ar (fun (K:Ex→St→Prop)=>fG C pl c S fun e S'=>match e with
      | .ex i=>match Nat.beq i id with | true=>K .nrm S' | false=>K (.ex i) S'
      | .nrm=>K .nrm S'
      | .ret=>K .ret S')
    refine ar.bind2 ih (fun e S'=>?_)
    cases e with
    | nrm=>exact ar.ret _ _
    | ret=>exact ar.ret _ _
    | ex i =>
      show ar (fun (K:Ex→St→Prop)=>match Nat.beq i id with | true=>K .nrm S' | false=>K (.ex i) S')
      split
      · exact ar.ret _ _
      · exact ar.ret _ _
  | loop c ih=>exact hC.loop _ _ _
  | exit id=>exact ar.ret (Ex.ex id) _
  | ret=>exact ar.ret Ex.ret _
  | _=>exact fun K h=>False.elim h
theorem ta {P:Program} {S:St}:∀ {rs:List ResultVar},av (uv P S rs)
  | []=>av.ret _
  | .tmp t::rs=>by
    show av (fun K=>nE S.t t fun a=>uv P S rs fun as=>K (a::as))
    exact av.bind fK (fun a=>av.bind ta (fun as=>av.ret (a::as)))
  | .cell c t::rs=>by
    show av (fun K=>nE S.t c fun p=>BO S p fun row j=>gu P t row j fun x=>uv P S rs fun as=>K (x::as))
    exact av.bind fK (fun a=>ar.bind rO (fun row j=>av.bind cH (fun x=>av.bind ta (fun as=>av.ret (x::as)))))
theorem B_ {as:List AV}:av (xu as):=by
  unfold xu
  split <;> exact av.ret _
theorem vu {C:Ctx} (hC:fk C) {f:Nat} {args:List AV} {o:List Ob}:ar (qU C f args o):=by
  show ar (fun K:AV→St→Prop=>qU C f args o K)
  have e:(fun K:AV→St→Prop=>qU C f args o K)=fun K=>sq C f args o K:=by funext K; exact propext vq
  rw [e]
  unfold sq
  split
  · rename_i fn _
    have resDet:∀ {S:St},ar (fun K:AV→St→Prop=>uv C.P S fn.results.toList fun rs=>xu rs fun r=>K r S):=fun {S}=>av.bind2 ta (fun rs=>av.bind2 B_ (fun r=>ar.ret r S))
    split
    · have e2:∀ (p:bA) (k:bA→(AV→St→Prop)→Prop),(fun K=>yS p fun pl=>k pl K)=fun K=>k p K:=fun p k=>by funext K; exact propext sW
      rw [e2]
      refine ar.bind2 (qB hC _) (fun e S=>?_)
      cases e with
      | ex i=>exact ar.failN
      | nrm=>exact resDet
      | ret=>exact resDet
    · exact ar.failN
  · exact ar.failN
theorem qC {C:Ctx} (hC:fk C) {f:Nat} {args:List AV}:av (pg C f args):=ar.bind (vu hC) (fun _ _=>jk)
theorem tc {C:Ctx} (hC:fk C) {f:Nat} {args:List AV} {o:List Ob}:ar (qj C f args o):=by
  show ar (fun (K:AV→List Ob→Prop)=>qU C f args o fun r S=>bw (rL 4 r&&Nat.beq S.b o.length) (K r S.o))
  exact ar.bind2 (vu hC) (fun _ _=>ar.chk (ar.ret _ _))
structure FF (cfg:m4):Prop where
  sound:∀ f args o K,cfg.xc f args o K→ni cfg.P f args o K
  det:∀ f args o,ar (cfg.xc f args o)
  pure:∀ f args r,cfg.xq f args=some r→yX cfg.P f args r
theorem FF.none {cfg:m4} (h:cfg.xc=fun _ _ _ _=>False) (hq:cfg.xq=fun _ _=>none):FF cfg:=⟨fun f args o K hk=>(by rw [h] at hk; exact hk.elim),fun f args o=>(by rw [h]; exact ar.failN (n:=0)),fun f args r e=>(by rw [hq] at e; cases e)⟩
theorem kF {cfg:m4} (hX:FF cfg):∀ n,fk (ff cfg n)
  | 0=>⟨fun _ _=>av.failN (n:=123),fun _ _ _=>ar.failN (n:=124),fun _ _ _=>ar.failN (n:=125)⟩
  | n + 1=>⟨fun f args=>by
      show av fun K=>match cfg.xq f args with | some r=>K r | none=>pg (ff cfg n) f args K
      cases cfg.xq f args with
      | some r=>exact av.ret r
      | none=>exact qC (kF hX n),fun f args o=>by
      show ar fun K=>match cfg.xs f with | true=>cfg.xc f args o K | false=>qj (ff cfg n) f args o K
      cases cfg.xs f with
      | true=>exact hX.det _ _ _
      | false=>exact tc (kF hX n),fun pl c S=>by
      have e0:(fun (K:Ex→St→Prop)=>sn (ff cfg n) fun C=>fG C pl c S fun e S'=>match e with
        | .nrm=>C.loop pl c S' K
        | .ex i=>K (.ex i) S'
        | .ret=>K .ret S')=fun K=>fG (ff cfg n) pl c S fun e S'=>match e with
        | .nrm=>(ff cfg n).loop pl c S' K
        | .ex i=>K (.ex i) S'
        | .ret=>K .ret S':=by funext K; exact propext nX
      show ar (fun (K:Ex→St→Prop)=>sn (ff cfg n) fun C=>fG C pl c S fun e S'=>match e with
        | .nrm=>C.loop pl c S' K
        | .ex i=>K (.ex i) S'
        | .ret=>K .ret S')
      rw [e0]
      refine ar.bind2 (qB (kF hX n) c) (fun e S'=>?_)
      cases e with
      | nrm=>exact (kF hX n).loop _ _ _
      | ex i=>exact ar.ret _ _
      | ret=>exact ar.ret _ _⟩
theorem td {cfg:m4} (hX:FF cfg) (n:Nat):sX (ff cfg n):=fun f args K h=>by
  obtain ⟨r,h1,h2⟩:=qC (kF hX n) K h
  exact ⟨r,h1,h2 _ rfl⟩
def gJ (S:St) (dst:Option Tmp) (v:AV) (m:Option St):St :=
  jc (match m with | none=>S | some M=>ey S M) dst v
def iM (S S2:St):Prop:=S2.l=S.l∧S2.o=S.o∧S2.b=S.b
theorem iM.refl (S:St):iM S S:=⟨rfl,rfl,rfl⟩
theorem iM.symm {S S2:St} (h:iM S S2):iM S2 S:=⟨h.1.symm,h.2.1.symm,h.2.2.symm⟩
theorem iM.trans {S S2 S3:St} (h:iM S S2) (k:iM S2 S3):iM S S3:=⟨k.1.trans h.1,k.2.1.trans h.2.1,k.2.2.trans h.2.2⟩
def mq (xs:List Operand) (S S2:St):Prop:=∀ d,Operand.tmp d∈xs→S2.t[d]?=S.t[d]?
theorem zk {S S2:St} {x:Operand} {k:AV→Prop} (h:cy S x k) (ha:∀ d,x=.tmp d→S2.t[d]?=S.t[d]?):cy S2 x k:=by
  unfold cy at *
  split at h
  · rename_i d
    obtain ⟨c,hc,hk⟩:=bW.1 h
    exact bW.2 ⟨c,by rw [ha d rfl]; exact hc,hk⟩
  · exact h
  · exact h
  · exact h
theorem f7 {S S2:St}:∀ {xs:List Operand} {k:List AV→Prop},cY S xs k→mq xs S S2→cY S2 xs k
  | [],_,h,_=>h
  | x::xs,k,h,ha=>by
    obtain ⟨c,h1,h2⟩:=bX _ h
    have hx:cy S2 x fun a=>cY S2 xs fun as=>k (a::as):=by
      refine zk (S:=S) (h2 _ ?_) (fun d e=>ha d (by rw [← e]; exact List.mem_cons_self))
      exact f7 h1 (fun d hd=>ha d (List.mem_cons_of_mem _ hd))
    exact hx
def Looks (site:Option Nat) (S S2:St):Prop :=
  match site with
  | some r=>aJ S2.l r=aJ S.l r
  | none=>S2.o=S.o
def pJ (site:Option Nat) (S M:St):Prop :=
  match site with
  | some r'=>M.o=S.o∧∀ r,r≠r'→aJ M.l r=aJ S.l r
  | none=>M.l=S.l
theorem Looks.of {site:Option Nat} {S S2:St} (h:iM S S2):Looks site S S2:=by
  cases site with
  | some r=>show aJ S2.l r=_; rw [h.1]
  | none=>exact h.2.1
theorem Looks.symm {site:Option Nat} {S S2:St} (h:Looks site S S2):Looks site S2 S:=by
  cases site with
  | some r=>exact Eq.symm h
  | none=>exact Eq.symm h
theorem Looks.trans {site:Option Nat} {S S2 S3:St} (h:Looks site S S2) (k:Looks site S2 S3):Looks site S S3:=by
  cases site with
  | some r=>exact Eq.trans k h
  | none=>exact Eq.trans k h
def rF (pl:bA) (aj:Array Oper) (o:Oper) (S S2:St):Prop :=
  (eG pl o=1→Looks (eH pl aj o) S S2)∧(eG pl o=2→iM S S2)
theorem rF.of {pl:bA} {aj:Array Oper} {o:Oper} {S S2:St} (h:iM S S2):rF pl aj o S S2:=⟨fun _=>.of h,fun _=>h⟩
def rG (pl:bA) (aj:Array Oper) (o:Oper) (S:St) (m:Option St):Prop :=
  (eG pl o≠2→m=none)∧∀ M,m=some M→pJ (eH pl aj o) S M
def Gw (C:Ctx) (pl:bA) (aj:Array Oper) (o:Oper) (S:St) (v:AV) (m:Option St):Prop :=
  rG pl aj o S m∧∀ S2,mq o.op.operands.toList S S2→rF pl aj o S S2→∀ K2:St→Prop,K2 (gJ S2 o.dst v m)→nI C pl aj o S2 K2
theorem x9 {S S2:St} (h:iM S S2):cC S2=cC S:=by
  unfold cC
  rw [h.1,h.2.1,h.2.2]
theorem zl {o:Oper} {t:Nat} (h:addrOf o=some t):Operand.tmp t∈o.op.operands.toList:=by
  unfold addrOf at h
  split at h
  · rename_i ty x ho
    cases h
    rw [ho]
    simp [Op.operands]
  · rename_i ty x y ho
    cases h
    rw [ho]
    simp [Op.operands]
  · cases h
theorem wL {pl:bA} {aj:Array Oper} {o:Oper} {S S2:St} (ha:mq o.op.operands.toList S S2):gW pl aj o S2=gW pl aj o S:=by
  unfold gW
  cases ht:addrOf o with
  | none=>rfl
  | some t =>
    dsimp only
    rw [ha t (zl ht)]
theorem oe {pl:bA} {aj:Array Oper} {o:Oper} {S:St} {t:Nat} (h:gW pl aj o S=true) (ht:addrOf o=some t):∃ c,S.t[t]?=some c∧l4 c (eH pl aj o)=true:=by
  unfold gW at h
  rw [ht] at h
  dsimp only at h
  split at h
  · rename_i c hc
    exact ⟨c,hc,h⟩
  · cases h
theorem mr {c:AV} {r:Nat} (h:l4 c (some r)=true):∃ i j,c=.ptr (.L r) i j:=by
  unfold l4 at h
  split at h
  · rename_i d i j r' hr
    cases hr
    have:=Nat.eq_of_beq_eq_true h
    subst this
    exact ⟨i,j,rfl⟩
  · rename_i hr; cases hr
  · rename_i hr; cases hr
  · cases h
theorem rc {c:AV} (h:l4 c none=true):(∃ id i j,c=.ptr (.O id) i j)∨∃ row j,c=.fptr row j:=by
  unfold l4 at h
  split at h
  · rename_i hr; cases hr
  · rename_i id i j _; exact .inl ⟨id,i,j,rfl⟩
  · rename_i row j _; exact .inr ⟨row,j,rfl⟩
  · cases h
theorem Ca {C:Ctx} {o:Oper} {ty:TypeId} {x:Operand} (ho:o.op=.load ty x) {r i j:Nat} {M M2:St} (h:aJ M2.l r=aJ M.l r) {k:AV→Prop} (hk:nG C o [.ptr (.L r) i j] M k):nG C o [.ptr (.L r) i j] M2 k:=by
  unfold nG at hk ⊢
  rw [ho] at hk ⊢
  unfold BO ul at hk ⊢
  dsimp only at hk ⊢
  rw [h]
  exact hk
theorem vw {C:Ctx} {o:Oper} {ty:TypeId} {x:Operand} (ho:o.op=.load ty x) {c:AV} (hc:l4 c none=true) {M M2:St} (h:M2.o=M.o) {k:AV→Prop} (hk:nG C o [c] M k):nG C o [c] M2 k:=by
  unfold nG at hk ⊢
  rw [ho] at hk ⊢
  rcases rc hc with ⟨id,i,j,rfl⟩ | ⟨row,j,rfl⟩
  · unfold BO ul at hk ⊢
    dsimp only at hk ⊢
    rw [h]
    exact hk
  · exact hk
theorem Dv {size:Nat} {x:AV} {S S2:St} (h:S2.o=S.o) {k:Bool→List (List AV)→Prop}:iK size S x k→iK size S2 x k:=by
  obtain ⟨t,l,oo,b⟩:=S
  obtain ⟨t2,l2,oo2,b2⟩:=S2
  have h':oo2=oo:=h
  subst h'
  unfold iK
  split <;> exact fun h=>h
theorem x_ {P:Program} {src dst:TypeId} {x:AV} {S S2:St} (h:S2.o=S.o) {k:AV→Prop}:fX P src dst x S k→fX P src dst x S2 k:=by
  unfold fX
  split
  · split
    · intro hk
      obtain ⟨h1,h2⟩:=ad hk
      exact ap h1 (Dv h h2)
    · exact fun h=>h
  · exact fun h=>h
theorem FP {C:Ctx} {o:Oper} (ho:∀ ty x,o.op≠.load ty x) {vs:List AV} {M M2:St} (h:M2.o=M.o) {k:AV→Prop}:nG C o vs M k→nG C o vs M2 k:=by
  obtain ⟨t,l,oo,b⟩:=M
  obtain ⟨t2,l2,oo2,b2⟩:=M2
  have h':oo2=oo:=h
  subst h'
  unfold nG
  split
  all_goals first
    | exact fun h=>h
    | exact x_ rfl
    | (exfalso; rename_i h1; exact ho _ _ h1)
    | (exfalso; rename_i h1 _; exact ho _ _ h1)
theorem te {S:St} {g:Nat} {xs:List Operand} {k:List AV→Prop} (h:cY S (.global g::xs) k):∃ row,cY S xs fun as=>k (.fptr row 0::as):=by
  have h':cy S (.global g) fun a=>cY S xs fun as=>k (a::as):=h
  cases hg:Dm g with
  | none=>simp only [cy,hg] at h'; exact False.elim h'
  | some row=>simp only [cy,hg] at h'; exact ⟨row,h'⟩
theorem vx {S:St} {t:Nat} {k:List AV→Prop} {a:AV} (ha:S.t[t]?=some a) (h:cY S [.tmp t] k):k [a]:=by
  obtain ⟨c,hc,h⟩:=bW.1 h
  rw [ha] at hc
  cases hc
  exact h
theorem vy {S:St} {t:Nat} {y:Operand} {k:List AV→Prop} {a:AV} (ha:S.t[t]?=some a) (h:cY S [.tmp t,y] k):∃ b,k [a,b]:=by
  obtain ⟨c,hc,h⟩:=bW.1 h
  rw [ha] at hc
  cases hc
  obtain ⟨b,h1,_⟩:=bX _ h
  exact ⟨b,h1⟩
theorem Cb {C:Ctx} {o:Oper} {c:AV} {site:Option Nat} {y:AV} {M:St} {k:AV→St→Prop} (hs:l4 c site=true) (h:u0 C o [c,y] M k):u0 C o [c,y] M fun v M'=>k v M'∧pJ site M M':=by
  obtain ⟨v,M',h1,h2⟩:=jO _ h
  refine h2 _ ⟨h1,?_⟩
  have h3:=h2 (fun _ M''=>M''=M') rfl
  unfold u0 at h3
  split at h3
  · rename_i ty X Y p z ho e
    cases e
    obtain ⟨cs,h4,_⟩:=bR _ h3
    split at h4
    · obtain ⟨_,h4⟩:=ad h4
      cases site with
      | some r' =>
        obtain ⟨i,j,rfl⟩:=mr hs
        unfold jW at h4
        dsimp only at h4
        split at h4
        · rename_i row hrow
          split at h4
          · obtain ⟨_,h4⟩:=ad h4
            rw [da,gA] at h4
            subst h4
            refine ⟨rfl,fun r hr=>?_⟩
            show aJ (o_ M.l r' _) r=_
            rw [g3 hrow,if_neg (fun e=>hr e.symm)]
          · exact False.elim h4
        · exact False.elim h4
      | none =>
        rcases rc hs with ⟨id,i,j,rfl⟩ | ⟨row,j,rfl⟩
        · unfold jW at h4
          dsimp only at h4
          split at h4
          · split at h4
            · obtain ⟨_,h4⟩:=ad h4
              rw [da,az] at h4
              subst h4
              rfl
            · exact False.elim h4
          · exact False.elim h4
        · exact False.elim h4
    · exact False.elim h4
  · exact False.elim h3
theorem tf {P:Program} {t:TypeId} {l c:AV} {M:St} {k:St→AV→Prop} (h:bP P t l c M k):bP P t l c M fun M' r=>k M' r∧M'.l=M.l:=by
  obtain ⟨M',r,h1,h2⟩:=eX _ h
  refine h2 _ ⟨h1,?_⟩
  have h3:=h2 (fun M'' _=>M''=M') rfl
  unfold bP at h3
  split at h3
  · split at h3
    · obtain ⟨n,h4,_⟩:=aY _ h3
      obtain ⟨m,h5,_⟩:=aY _ h4
      obtain ⟨_,h5⟩:=ad h5
      obtain ⟨z,h6,_⟩:=aM _ h5
      obtain ⟨_,h6⟩:=ad h6
      rw [az] at h6
      rw [← h6]
    · exact False.elim h3
  · exact False.elim h3
theorem tg {M:St} {id i:Nat} {k:AV→St→Prop} (h:ez M id i k) (hk:∀ v M',M'.l=M.l→k v M'→False):False:=by
  unfold ez at h
  split at h
  · split at h
    · exact hk _ _ (by rfl) h
    · rw [az] at h
      exact hk _ _ (by rfl) h
    · exact h
  · exact h
theorem zm {P:Program} {t:TypeId} {same:Bool} {M:St} {id i:Nat} {k:AV→St→Prop} (h:gx P t same M id i k) (hk:∀ v M',M'.l=M.l→k v M'→False):False:=by
  unfold gx at h
  split at h
  · split at h
    · obtain ⟨_,h⟩:=ad h
      obtain ⟨r,h,_⟩:=cH _ h
      exact hk _ _ (by rfl) h
    · exact h
  · refine tg h (fun v M' e h=>?_)
    obtain ⟨r,h,_⟩:=cH _ h
    exact hk _ _ e h
theorem ya {P:Program} {t:TypeId} {M:St} {id i:Nat} {v:AV} {K:St→Prop} (h:fc P t M id i v K) (hk:∀ M',M'.l=M.l→K M'→False):False:=by
  unfold fc at h
  split at h
  · obtain ⟨_,h⟩:=ad h
    rw [az] at h
    exact hk _ (by rfl) h
  · exact h
theorem zn {P:Program} {t:TypeId} {j:Nat} {l c:AV} {M:St} {k:AV→St→Prop} (h:fF P j t l c M k) (hk:∀ v M',M'.l=M.l→k v M'→False):False:=by
  unfold fF at h
  split at h
  · split at h
    · split at h
      · obtain ⟨n,h,_⟩:=aY _ h
        obtain ⟨m,h,_⟩:=aY _ h
        obtain ⟨_,h⟩:=ad h
        obtain ⟨z,h,_⟩:=aM _ h
        split at h
        · obtain ⟨_,h,_⟩:=lj _ h
          exact hk _ _ (by rfl) h
        · exact h
      · exact h
    · exact h
  · exact h
theorem uL {P:Program} {t:TypeId} {M:St} {k:AV→St→Prop} (h:eU P t M k) (hk:∀ v M',M'.l=M.l→k v M'→False):False:=by
  unfold eU at h
  split at h
  · split at h
    · split at h
      · obtain ⟨_,h⟩:=ad h
        rw [az] at h
        exact hk _ _ (by rfl) h
      · exact h
    · exact h
  · exact h
theorem zo {P:Program} {t:TypeId} {m key:AV} {ok:Bool} {M:St} {k:AV→St→Prop} (h:gz P t m key ok M k) (hk:∀ v M',M'.l=M.l→k v M'→False):False:=by
  unfold gz at h
  split at h
  · split at h
    · split at h
      · obtain ⟨x,r,h,_⟩:=cJ _ h
        split at h
        · refine tg h (fun v M' e h=>?_)
          obtain ⟨r,h,_⟩:=eE _ h
          exact hk _ _ e h
        · obtain ⟨r,h,_⟩:=dX _ h
          exact hk _ _ (by rfl) h
      · exact h
    · exact h
  · exact h
theorem vz {P:Program} {t:TypeId} {m key x:AV} {M:St} {K:St→Prop} (h:hZ P t m key x M K) (hk:∀ M',M'.l=M.l→K M'→False):False:=by
  unfold hZ at h
  split at h
  · split at h
    · split at h
      · obtain ⟨_,h⟩:=ad h
        obtain ⟨x,r,h,_⟩:=cJ _ h
        obtain ⟨_,h⟩:=ad h
        split at h
        · obtain ⟨_,h⟩:=ad h
          rw [az] at h
          exact hk _ (by rfl) h
        · split at h
          · rw [az] at h
            exact hk _ (by rfl) h
          · exact h
      · exact h
    · exact h
  · exact h
theorem yb {M:St} {x:AV} {X:Nat→Nat→Prop} (h:gV M x X) (hk:∀ id i,X id i→False):False:=by
  unfold gV at h
  split at h
  · split at h
    · exact hk _ _ h
    · exact h
  · exact h
theorem EM {P:Program} {pl:bA} {o:Oper} {vs:List AV} {M:St} {k:AV→St→Prop} (h:jD P pl o vs M k) (hk:∀ v M',M'.l=M.l→k v M'→False):False:=by
  unfold jD at h
  split at h
  · exact yb h (fun _ _ h=>zm h hk)
  · exact yb h (fun _ _ h=>ya h (fun M' e h=>hk _ _ e h))
  · exact zn h hk
  · exact uL h hk
  · exact zo h hk
  · exact vz h (fun M' e h=>hk _ _ e h)
  · exact vz h (fun M' e h=>hk _ _ e h)
  · exact h
theorem Bd {P:Program} {pl:bA} {o:Oper} {vs:List AV} {M:St} {k:AV→St→Prop} (h:jD P pl o vs M k):jD P pl o vs M fun v M'=>k v M'∧M'.l=M.l:=by
  obtain ⟨v,M',h1,h2⟩:=s6 _ h
  refine h2 _ ⟨h1,?_⟩
  by_cases e:M'.l=M.l
  · exact e
  · exact (EM (h2 (fun _ M''=>M''.l≠M.l) e) (fun _ _ e h=>h e)).elim
theorem Cc {P:Program} {pl:bA} {o:Oper} {x:AV} {vs:List AV} {M:St} {k:AV→St→Prop} (h:jD P pl o (x::vs) M k) (ht:(addrOf o).isSome=true):∀ d i j,x≠.ptr (.L d) i j:=by
  intro d i j e
  subst e
  unfold jD at h
  unfold addrOf at ht
  split at h
  · rename_i he
    cases he
    exact h
  · rename_i he
    cases he
    exact h
  · rename_i ho _
    rw [ho] at ht
    cases ht
  · rename_i he
    cases he
  · rename_i ho _
    rw [ho] at ht
    cases ht
  · rename_i ho _
    rw [ho] at ht
    cases ht
  · rename_i ho _
    rw [ho] at ht
    cases ht
  · exact h
def vB (pl:bA) (o:Oper):Prop:=((∃ t X Y,o.op=.makeSlice t X Y)∨∃ c,o.op=.call c)∨eT pl o=true
theorem vC {pl:bA} {o:Oper} (h:¬ vB pl o):eT pl o=false:=by
  cases e:eT pl o with
  | false=>rfl
  | true=>exact absurd (.inr e) h
theorem vD {pl:bA} {o:Oper} (h:eG pl o≠2):eT pl o=false:=by
  cases e:eT pl o with
  | false=>rfl
  | true=>exact absurd (by unfold eG; rw [e]) h
theorem og {C:Ctx} {pl:bA} {o:Oper} {vs:List AV} {M:St} {k:AV→St→Prop} (h:¬ vB pl o):kT C pl o vs M k=u0 C o vs M k:=by
  unfold kT
  rw [vC h]
  dsimp only
  unfold jJ
  split
  · rename_i t X Y l c ho
    exact absurd (.inl (.inl ⟨t,X,Y,ho⟩)) h
  · rename_i c _ _ _ _ ho
    exact absurd (.inl (.inr ⟨c,ho⟩)) h
  · rfl
theorem Be {C:Ctx} (hC:fk C) {pl:bA} {o:Oper} {vs:List AV} {M:St} {k:AV→St→Prop} (hm:vB pl o) (h:kT C pl o vs M k):kT C pl o vs M fun v M'=>k v M'∧M'.l=M.l:=by
  unfold kT at h ⊢
  cases e:eT pl o with
  | true =>
    rw [e] at h
    exact Bd h
  | false =>
    rw [e] at h
    have hm:(∃ t X Y,o.op=.makeSlice t X Y)∨∃ c,o.op=.call c:=by
      rcases hm with hm | hm
      · exact hm
      · rw [e] at hm; cases hm
    dsimp only at h ⊢
    unfold jJ at h ⊢
    split at h
    · rename_i t' X' Y' l c ho'
      exact tf h
    · split at h
      · obtain ⟨h1,h⟩:=ad h
        refine ap h1 ?_
        obtain ⟨r,o',h2,h3⟩:=hC.scall _ _ _ _ h
        refine h3 _ ?_
        obtain ⟨h4,h5⟩:=ad h2
        exact ap h4 ⟨h5,rfl⟩
      · exact h.elim
    · exfalso
      unfold u0 at h
      split at h
      · rename_i heq x1 x2
        rcases hm with ⟨t,X,Y,ho⟩ | ⟨c,ho⟩ <;> (rw [ho] at heq; cases heq)
      · exact h
theorem Cd {pl:bA} {o:Oper} {ty:TypeId} {x:Operand} (hw:eT pl o=false) (ho:o.op=.load ty x):eG pl o=1:=by
  unfold eG
  rw [hw]
  dsimp only
  unfold u4
  rw [ho]
  dsimp only
  unfold BV
  rw [ho]
theorem Bf {pl:bA} {o:Oper} {ty:TypeId} {x y:Operand} (hw:eT pl o=false) (ho:o.op=.store ty x y):eG pl o=2:=by
  unfold eG
  rw [hw]
  dsimp only
  unfold u4
  rw [ho]
  dsimp only
  unfold BV
  rw [ho]
theorem zp {C:Ctx} {pl:bA} {aj:Array Oper} {o:Oper} {S:St} {vs:List AV} {k:AV→St→Prop} (hm:vB pl o) (hkey:gW pl aj o S=true) (hget:cY S o.op.operands.toList (fun x=>x=vs)) (h:kT C pl o vs (cC S) k):eH pl aj o=none:=by
  cases ht:addrOf o with
  | none=>unfold eH; rw [ht]
  | some t =>
    obtain ⟨c,hc1,hc2⟩:=oe hkey ht
    cases hs:eH pl aj o with
    | none=>rfl
    | some r =>
      exfalso
      rw [hs] at hc2
      obtain ⟨i,j,rfl⟩:=mr hc2
      have hw:eT pl o=true:=by
        rcases hm with (⟨t',X,Y,ho⟩ | ⟨c,ho⟩) | hm
        · unfold addrOf at ht; rw [ho] at ht; cases ht
        · unfold addrOf at ht; rw [ho] at ht; cases ht
        · exact hm
      unfold kT at h
      rw [hw] at h
      dsimp only at h
      have hx:∃ ys,vs=.ptr (.L r) i j::ys:=by
        unfold addrOf at ht
        split at ht
        · rename_i ty x ho
          cases ht
          have hop:o.op.operands.toList=[.tmp t]:=by rw [ho]; simp [Op.operands]
          rw [hop] at hget
          exact ⟨[],(vx hc1 hget).symm⟩
        · rename_i ty x y ho
          cases ht
          have hop:o.op.operands.toList=[.tmp t,y]:=by rw [ho]; simp [Op.operands]
          rw [hop] at hget
          obtain ⟨b,hb⟩:=vy hc1 hget
          exact ⟨[b],hb.symm⟩
        · cases ht
      obtain ⟨ys,rfl⟩:=hx
      exact Cc h (by rw [ht]; rfl) r i j rfl
theorem Bg {pl:bA} {o:Oper} {t:Nat} (h:addrOf o=some t) (hc:eG pl o=1):∃ ty,o.op=.load ty (.tmp t):=by
  unfold addrOf at h
  split at h
  · rename_i ty x ho
    cases h
    exact ⟨ty,ho⟩
  · rename_i ty x y ho
    rw [Bf (vD (by rw [hc]; decide)) ho] at hc
    cases hc
  · cases h
theorem zq {pl:bA} {o:Oper} {t:Nat} (h:addrOf o=some t) (hw:eT pl o=false) (hc:eG pl o=2):∃ ty y,o.op=.store ty (.tmp t) y:=by
  unfold addrOf at h
  split at h
  · rename_i ty x ho
    rw [Cd hw ho] at hc
    cases hc
  · rename_i ty x y ho
    cases h
    exact ⟨ty,y,ho⟩
  · cases h
theorem z6 {C:Ctx} (hC:fk C) {pl:bA} {aj:Array Oper} {o:Oper} {S:St} {K:St→Prop} (hez:yQ (eG pl o)=true) (h:nI C pl aj o S K):∃ v m,Gw C pl aj o S v m∧K (gJ S o.dst v m):=by
  obtain ⟨hkey,h⟩:=ad h
  have fin:∀ {S2:St} {K2:St→Prop},mq o.op.operands.toList S S2→uj C pl o S2 K2→nI C pl aj o S2 K2:=fun ha h=>ap (by rw [wL ha]; exact hkey) h
  unfold uj at h
  split at h
  · rename_i hc
    obtain ⟨vs,h1,h2⟩:=aX _ h
    obtain ⟨r,h3,h4⟩:=rP _ h1
    rw [aE] at h3
    refine ⟨r,none,⟨⟨fun _=>rfl,fun M e=>by cases e⟩,fun S2 ha _ K2 hk=>fin ha ?_⟩,h3⟩
    unfold uj
    rw [hc]
    refine f7 (S:=S) (h2 (fun vs=>pop C pl o vs fun r=>br o.dst r S2 K2) (h4 _ ?_)) ha
    rw [aE]
    exact hk
  · rename_i hc
    obtain ⟨vs,h1,h2⟩:=aX _ h
    obtain ⟨r,h3,h4⟩:=rQ hC _ h1
    rw [aE] at h3
    refine ⟨r,none,⟨⟨fun _=>rfl,fun M e=>by cases e⟩,fun S2 ha hm K2 hk=>fin ha ?_⟩,h3⟩
    unfold uj
    rw [hc]
    have h5:=h4 (fun r=>br o.dst r S2 K2) (by rw [aE]; exact hk)
    have hm1:=hm.1 hc
    refine f7 (S:=S) (h2 (fun vs=>nG C o vs (cC S2) fun r=>br o.dst r S2 K2) ?_) ha
    cases ht:addrOf o with
    | some t =>
      obtain ⟨c,hc1,hc2⟩:=oe hkey ht
      obtain ⟨ty,ho⟩:=Bg ht hc
      have hop:o.op.operands.toList=[.tmp t]:=by rw [ho]; simp [Op.operands]
      have hvs:vs=[c]:=by
        have:=h2 (fun x=>x=vs) rfl
        rw [hop] at this
        exact (vx hc1 this).symm
      subst hvs
      cases hs:eH pl aj o with
      | some r =>
        rw [hs] at hm1 hc2
        obtain ⟨i,j,rfl⟩:=mr hc2
        exact Ca ho (M:=cC S) hm1 h5
      | none =>
        rw [hs] at hm1 hc2
        exact vw ho hc2 (M:=cC S) hm1 h5
    | none =>
      have hs:eH pl aj o=none:=by unfold eH; rw [ht]
      rw [hs] at hm1
      by_cases hl:∃ ty x,o.op=.load ty x
      · obtain ⟨ty,x,ho⟩:=hl
        have hop:o.op.operands.toList=[x]:=by rw [ho]; simp [Op.operands]
        by_cases hglob:∃ g,x=.global g
        · obtain ⟨g,rfl⟩:=hglob
          have hv:=h2 (fun x=>x=vs) rfl
          rw [hop] at hv
          obtain ⟨row,hv⟩:=te hv
          have hv':[AV.fptr row 0]=vs:=hv
          subst hv'
          exact vw ho rfl (M:=cC S) hm1 h5
        exfalso
        cases x with
        | tmp t=>unfold addrOf at ht; rw [ho] at ht; cases ht
        | const cc =>
          have hv:=h2 (fun x=>x=vs) rfl
          rw [hop] at hv
          have hv':vs=[AO cc]:=by
            have:i7 (AO cc) (fun a=>[a]=vs):=hv
            rw [ci] at this
            exact this.symm
          subst hv'
          have h6:=h1
          unfold nG at h6
          rw [ho] at h6
          have h7:BO (cC S) (AO cc) fun row j=>gu C.P ty row j fun r=>br o.dst r S K:=h6
          have hno:∀ c:Value,(∀ k i j,AO c≠.ptr k i j)∧∀ r j,AO c≠.fptr r j:=by
            intro c
            refine ⟨fun k i j=>?_,fun r j=>?_⟩ <;>
            · unfold AO
              split
              · intro h; cases h
              · unfold r8
                split <;> intro h <;> cases h
          unfold BO at h7
          split at h7
          · rename_i k i j he; exact (hno cc).1 _ _ _ he
          · rename_i r j he; exact (hno cc).2 _ _ he
          · exact h7
        | func f =>
          have hv:=h2 (fun x=>x=vs) rfl
          rw [hop] at hv
          have hv':[AV.fn f [] []]=vs:=hv
          subst hv'
          have h6:=h1
          unfold nG at h6
          rw [ho] at h6
          exact h6
        | global g=>exact hglob ⟨g,rfl⟩
      · exact FP (fun ty x he=>hl ⟨ty,x,he⟩) (M:=cC S) hm1 h5
  · rename_i hc
    obtain ⟨vs,h1,h2⟩:=aX _ h
    by_cases hmk:vB pl o
    · obtain ⟨r,M,⟨h3,h5⟩,h4⟩:=xZ hC _ (Be hC hmk h1)
      rw [aE] at h3
      refine ⟨r,some M,⟨⟨fun hn=>absurd hc hn,fun M' e=>?_⟩,fun S2 ha hm K2 hk=>fin ha ?_⟩,h3⟩
      · cases e
        rw [zp hmk hkey (h2 (fun x=>x=vs) rfl) h1]
        exact h5
      · unfold uj
        rw [hc]
        have hm':=x9 (hm.2 hc)
        refine f7 (S:=S) (h2 (fun vs=>kT C pl o vs (cC S2) fun r M=>br o.dst r (ey S2 M) K2) ?_) ha
        rw [hm']
        refine h4 _ ?_
        rw [aE]
        exact hk
    rw [og hmk] at h1
    have hkeep:u0 C o vs (cC S) fun v M'=>(fun v M=>br o.dst v (ey S M) K) v M'∧(∀ t,addrOf o=some t→pJ (eH pl aj o) S M'):=by
      cases ht:addrOf o with
      | none =>
        obtain ⟨r,M,h3,h4⟩:=jO _ h1
        exact h4 _ ⟨h3,fun t e=>by cases e⟩
      | some t =>
        obtain ⟨c,hc1,hc2⟩:=oe hkey ht
        obtain ⟨ty,y,ho⟩:=zq ht (vC hmk) hc
        have hop:o.op.operands.toList=[.tmp t,y]:=by rw [ho]; simp [Op.operands]
        have hvs:∃ b,vs=[c,b]:=by
          have:=h2 (fun x=>x=vs) rfl
          rw [hop] at this
          obtain ⟨b,hb⟩:=vy hc1 this
          exact ⟨b,hb.symm⟩
        obtain ⟨b,rfl⟩:=hvs
        obtain ⟨r,M,h3,h4⟩:=jO _ (Cb hc2 h1)
        exact h4 _ ⟨h3.1,fun t' _=>(show pJ (eH pl aj o) (cC S) M from h3.2)⟩
    obtain ⟨r,M,⟨h3,h5⟩,h4⟩:=jO _ hkeep
    rw [aE] at h3
    refine ⟨r,some M,⟨⟨fun hn=>absurd hc hn,fun M' e=>?_⟩,fun S2 ha hm K2 hk=>fin ha ?_⟩,h3⟩
    · cases e
      cases ht:addrOf o with
      | some t=>exact h5 t ht
      | none =>
        exfalso
        have h6:=h4 (fun _ _=>True) trivial
        unfold u0 at h6
        split at h6
        · rename_i ty X Y p z ho
          cases X with
          | tmp t=>unfold addrOf at ht; rw [ho] at ht; cases ht
          | const cc =>
            have hv:=h2 (fun x=>x=[p,z]) rfl
            have hop:o.op.operands.toList=[.const cc,Y]:=by rw [ho]; simp [Op.operands]
            rw [hop] at hv
            have hv':i7 (AO cc) fun a=>cy S Y fun b=>[a,b]=[p,z]:=hv
            rw [ci] at hv'
            obtain ⟨b,hb,_⟩:=bX _ hv'
            cases hb
            obtain ⟨cs,h7,_⟩:=bR _ h6
            have hno:∀ c:Value,∀ k i j,AO c≠.ptr k i j:=by
              intro c k i j
              unfold AO
              split
              · intro h; cases h
              · unfold r8
                split <;> intro h <;> cases h
            split at h7
            · obtain ⟨_,h7⟩:=ad h7
              unfold jW at h7
              split at h7
              · rename_i he; exact hno cc _ _ _ he
              · rename_i he; exact hno cc _ _ _ he
              · exact h7
            · exact h7
          | func f =>
            have hv:=h2 (fun x=>x=[p,z]) rfl
            have hop:o.op.operands.toList=[.func f,Y]:=by rw [ho]; simp [Op.operands]
            rw [hop] at hv
            have hv':cy S Y fun b=>[AV.fn f [] [],b]=[p,z]:=hv
            obtain ⟨b,hb,_⟩:=bX _ hv'
            cases hb
            obtain ⟨cs,h7,_⟩:=bR _ h6
            split at h7
            · obtain ⟨_,h7⟩:=ad h7
              exact h7
            · exact h7
          | global g =>
            have hv:=h2 (fun x=>x=[p,z]) rfl
            have hop:o.op.operands.toList=[.global g,Y]:=by rw [ho]; simp [Op.operands]
            rw [hop] at hv
            obtain ⟨row,hv⟩:=te hv
            have hv':cy S Y fun b=>[AV.fptr row 0,b]=[p,z]:=hv
            obtain ⟨b,hb,_⟩:=bX _ hv'
            cases hb
            obtain ⟨cs,h7,_⟩:=bR _ h6
            split at h7
            · obtain ⟨_,h7⟩:=ad h7
              exact h7
            · exact h7
        · exact h6
    · unfold uj
      rw [hc]
      have hm':=x9 (hm.2 hc)
      refine f7 (S:=S) (h2 (fun vs=>kT C pl o vs (cC S2) fun r M=>br o.dst r (ey S2 M) K2) ?_) ha
      rw [hm',og hmk]
      refine h4 _ ?_
      rw [aE]
      exact hk
  · rename_i hc
    split at h
    · rename_i d hd
      rw [aE] at h
      refine ⟨_,none,⟨⟨fun _=>rfl,fun M e=>by cases e⟩,fun S2 ha _ K2 hk=>fin ha ?_⟩,h⟩
      unfold uj
      rw [hc]
      show match o.dst with
        | some d=>br o.dst (.ptr (.L d) 0 0) S2 K2
        | none=>ah 217
      split
      · rename_i d2 hd2
        rw [hd] at hd2
        cases hd2
        rw [aE]
        exact hk
      · rename_i hd2
        rw [hd] at hd2
        cases hd2
    · exact False.elim h
  · rename_i hc
    obtain ⟨vs,h1,h2⟩:=aX _ h
    obtain ⟨r,h3,h4⟩:=rR _ h1
    rw [aE] at h3
    refine ⟨r,none,⟨⟨fun _=>rfl,fun M e=>by cases e⟩,fun S2 ha _ K2 hk=>fin ha ?_⟩,h3⟩
    unfold uj
    rw [hc]
    refine f7 (S:=S) (h2 (fun vs=>ED C o vs fun r=>br o.dst r S2 K2) (h4 _ ?_)) ha
    rw [aE]
    exact hk
  · rename_i h0 h1 h2 h4 h5
    exfalso
    unfold yQ at hez
    split at hez
    · rename_i he; exact h0 he
    · rename_i he; exact h1 he
    · rename_i he; exact h2 he
    · rename_i he; exact h4 he
    · rename_i he; exact h5 he
    · cases hez
theorem wM {S:St} {t:List AV} (h:t=S.t):({ t:=t,l:=S.l,o:=S.o,b:=S.b }:St)=S:=by
  subst h; rfl
theorem fL {t:List AV} {d:Nat} {x:AV} (h:t[d]?=some x):t.set d x=t:=by
  apply List.ext_getElem?
  intro j
  rw [List.getElem?_set]
  by_cases hj:d=j
  · subst hj
    rw [if_pos rfl,if_pos (List.getElem?_eq_some_iff.1 h).1,h]
  · rw [if_neg hj]
def z7 (S:St) (d:Nat) (b:Option Bool):Prop :=
  match b with
  | some b=>S.t[d]?=some (.v (.bool b))
  | none=>S.t[d]?=some (.tup [])
theorem re {d:Nat} {S:St} {k:Option Bool→St→Prop}:fe d S k↔∃ b,z7 S d b∧k b S:=by
  constructor
  · intro h
    unfold fe at h
    rw [bW] at h
    obtain ⟨c,hc,h⟩:=h
    split at h
    · rename_i b
      rcases kz h with ⟨hb,h2⟩ | ⟨hb,h2⟩
      · subst hb
        rw [dI,wM (fL hc)] at h2
        exact ⟨some true,hc,h2⟩
      · subst hb
        rw [dI,wM (fL hc)] at h2
        exact ⟨some false,hc,h2⟩
    · exact ⟨none,hc,h⟩
    · exact False.elim h
  · rintro ⟨b,hb,h⟩
    unfold fe
    rw [bW]
    cases b with
    | none=>exact ⟨_,hb,h⟩
    | some b =>
      refine ⟨_,hb,?_⟩
      dsimp only
      refine yT (fun e=>?_) (fun e=>?_)
      · subst e; rw [dI,wM (fL hb)]; exact h
      · subst e; rw [dI,wM (fL hb)]; exact h
def agree (aj:Array Oper) (o:Oper) (S S2:St):Prop:=∀ d∈o.looksAt aj,S2.t[d]?=S.t[d]?
def Eff (C:Ctx) (pl:bA) (aj:Array Oper) (o:Oper) (S:St) (v:AV) (m:Option St):Prop :=
  rG pl aj o S m∧∀ S2,agree aj o S S2→rF pl aj o S S2→∀ K2:St→Prop,K2 (gJ S2 o.dst v m)→ag C pl aj o S2 K2
theorem vE {aj:Array Oper} {o:Oper} {S S2:St} (h:agree aj o S S2):mq o.op.operands.toList S S2:=fun d hd =>
  h d (List.mem_append_left _ (List.mem_filterMap.2 ⟨.tmp d,hd,rfl⟩))
theorem Ce {C:Ctx} (hC:fk C) {pl:bA} {aj:Array Oper} {o:Oper} {S:St} {K:St→Prop} (hez:yQ (eG pl o)=true) (h:ag C pl aj o S K):∃ v m,Eff C pl aj o S v m∧K (gJ S o.dst v m):=by
  unfold ag at h
  split at h
  · rename_i hg
    obtain ⟨v,m,⟨h1,h2⟩,h3⟩:=z6 hC hez h
    refine ⟨v,m,⟨h1,fun S2 ha hm K2 hk=>?_⟩,h3⟩
    unfold ag
    rw [hg]
    exact h2 S2 (vE ha) hm K2 hk
  · rename_i j want hg
    split at h
    · exact False.elim h
    · rename_i d hd
      obtain ⟨b,hb,h⟩:=re.1 h
      have hlook:d∈o.looksAt aj:=List.mem_append_right _ (by
        rw [hg]
        unfold pf at hd
        simp [hd])
      have hin:∀ (S2:St) (K2:St→Prop),agree aj o S S2→gsel b want (nI C pl aj o S2 K2) (br o.dst (.tup []) S2 K2)→ag C pl aj o S2 K2:=by
        intro S2 K2 ha hk
        unfold ag
        rw [hg]
        dsimp only
        rw [hd]
        refine re.2 ⟨b,?_,hk⟩
        unfold z7 at hb ⊢
        rw [ha d hlook]
        exact hb
      have yes:nI C pl aj o S K→(∀ (S2:St) (K2:St→Prop),agree aj o S S2→nI C pl aj o S2 K2→ag C pl aj o S2 K2)→∃ v m,Eff C pl aj o S v m∧K (gJ S o.dst v m):=by
        intro h hi
        obtain ⟨v,m,⟨h1,h2⟩,h3⟩:=z6 hC hez h
        exact ⟨v,m,⟨h1,fun S2 ha hm K2 hk=>hi S2 K2 ha (h2 S2 (vE ha) hm K2 hk)⟩,h3⟩
      have no:br o.dst (.tup []) S K→(∀ (S2:St) (K2:St→Prop),agree aj o S S2→br o.dst (.tup []) S2 K2→ag C pl aj o S2 K2)→∃ v m,Eff C pl aj o S v m∧K (gJ S o.dst v m):=by
        intro h hi
        rw [aE] at h
        exact ⟨.tup [],none,⟨⟨fun _=>rfl,fun M e=>by cases e⟩,fun S2 ha _ K2 hk=>hi S2 K2 ha (by rw [aE]; exact hk)⟩,h⟩
      cases b with
      | none=>exact no h (fun S2 K2 ha hk=>hin S2 K2 ha hk)
      | some b =>
        cases b <;> cases want
        · exact yes h (fun S2 K2 ha hk=>hin S2 K2 ha hk)
        · exact no h (fun S2 K2 ha hk=>hin S2 K2 ha hk)
        · exact no h (fun S2 K2 ha hk=>hin S2 K2 ha hk)
        · exact yes h (fun S2 K2 ha hk=>hin S2 K2 ha hk)
theorem Cf {S:St} {dst:Option Tmp} {v:AV} {m:Option St} {d:Nat} (h:dst≠some d):(gJ S dst v m).t[d]?=S.t[d]?:=by
  unfold gJ jc
  cases dst with
  | none=>cases m <;> rfl
  | some e =>
    have hne:e≠d:=fun he=>h (by rw [he])
    cases m <;> simp [ey,List.getElem?_set_ne hne]
theorem ti {S:St} {dst:Option Tmp} {v:AV}:iM S (gJ S dst v none):=by
  unfold gJ jc
  cases dst <;> exact ⟨rfl,rfl,rfl⟩
def tj (pl:bA) (aj:Array Oper) (x y:Oper):Prop :=
  eG pl x=2→eG pl y≠2∧(eG pl y=1→gX pl aj x y=true)
theorem rH {pl:bA} {aj:Array Oper} {x y:Oper} (h:gX pl aj x y=true):gX pl aj y x=true:=by
  revert h
  unfold gX
  generalize eH pl aj x=a
  generalize eH pl aj y=b
  intro h
  cases a with
  | none=>cases b with
    | none=>exact h
    | some b=>rfl
  | some a=>cases b with
    | none=>rfl
    | some b =>
      have h':(!(Nat.beq a b))=true:=h
      show (!(Nat.beq b a))=true
      cases hb:Nat.beq b a with
      | false=>rfl
      | true =>
        have:=Nat.eq_of_beq_eq_true hb
        subst this
        rw [hb] at h'
        cases h'
theorem yc {pl:bA} {aj:Array Oper} {x y:Oper} (h:sk pl aj x y=true):x.apart aj y=true∧tj pl aj x y∧tj pl aj y x∧yQ (eG pl x)=true∧yQ (eG pl y)=true:=by
  unfold sk at h
  simp only [Bool.and_eq_true] at h
  refine ⟨h.1,fun e=>⟨fun e2=>?_,fun e2=>?_⟩,fun e=>⟨fun e2=>?_,fun e2=>?_⟩,?_,?_⟩
  · have h2:=h.2
    rw [e,e2] at h2
    simp at h2
  · have h2:=h.2
    rw [e,e2] at h2
    exact h2
  · have h2:=h.2
    rw [e,e2] at h2
    simp at h2
  · have h2:=h.2
    rw [e,e2] at h2
    exact rH h2
  · have h2:=h.2
    revert h2
    split <;> rename_i h3 h4 <;> intro h2 <;> first | (rw [h3]; rfl) | cases h2
  · have h2:=h.2
    revert h2
    split <;> rename_i h3 h4 <;> intro h2 <;> first | (rw [h4]; rfl) | cases h2
theorem Bh {S:St} {x y:Option Tmp} {v u:AV} {m n:Option St} (h:∀ d,x=some d→y≠some d) (hm:m=none∨n=none):gJ (gJ S x v m) y u n=gJ (gJ S y u n) x v m:=by
  cases x with
  | none=>cases y <;> rcases hm with rfl | rfl <;> first | rfl | (cases m <;> rfl) | (cases n <;> rfl)
  | some d =>
    cases y with
    | none=>rcases hm with rfl | rfl <;> first | (cases m <;> rfl) | (cases n <;> rfl)
    | some e =>
      have hne:d≠e:=fun he=>h d rfl (he▸rfl)
      have hs:(S.t.set d v).set e u=(S.t.set e u).set d v:=List.set_comm _ _ hne
      rcases hm with rfl | rfl
      · cases n <;> simp only [gJ,jc,ey,hs]
      · cases m <;> simp only [gJ,jc,ey,hs]
theorem Cg {S:St} {dst:Option Tmp} {v:AV} {m:Option St}:(gJ S dst v m).l=match m with | none=>S.l | some M=>M.l:=by
  unfold gJ
  rw [ck]
  cases m <;> rfl
theorem yd {pl:bA} {aj:Array Oper} {x y:Oper} {S:St} {v:AV} {m:Option St} (hk:rG pl aj x S m) (hc:tj pl aj x y):rF pl aj y S (gJ S x.dst v m):=by
  cases m with
  | none=>exact .of ti
  | some M =>
    have h2:eG pl x=2:=by
      cases Nat.decEq (eG pl x) 2 with
      | isTrue h=>exact h
      | isFalse h=>have:=hk.1 h; cases this
    obtain ⟨h3,h4⟩:=hc h2
    refine ⟨fun h1=>?_,fun h=>absurd h h3⟩
    have hap:=h4 h1
    have hkm:=hk.2 M rfl
    have hoM:(gJ S x.dst v (some M)).o=M.o:=by unfold gJ; rw [cm]; rfl
    revert hap hkm
    unfold gX
    generalize eH pl aj x=sx
    generalize eH pl aj y=sy
    intro hap hkm
    cases sx with
    | some a=>cases sy with
      | some b =>
        show aJ _ b=_
        rw [Cg]
        refine hkm.2 b (fun e=>?_)
        subst e
        have h':(!(Nat.beq b b))=true:=hap
        rw [show Nat.beq b b=true from Nat.beq_refl b] at h'
        cases h'
      | none =>
        show (gJ S x.dst v (some M)).o=S.o
        rw [hoM]
        exact hkm.1
    | none=>cases sy with
      | some b =>
        show aJ _ b=_
        rw [Cg]
        show aJ M.l b=_
        rw [show M.l=S.l from hkm]
      | none=>cases hap
theorem rF.symm {pl:bA} {aj:Array Oper} {o:Oper} {S S2:St} (h:rF pl aj o S S2):rF pl aj o S2 S:=⟨fun h1=>(h.1 h1).symm,fun h2=>(h.2 h2).symm⟩
theorem rF.trans {pl:bA} {aj:Array Oper} {o:Oper} {S S2 S3:St} (h:rF pl aj o S S2) (k:rF pl aj o S2 S3):rF pl aj o S S3:=⟨fun h1=>(h.1 h1).trans (k.1 h1),fun h2=>(h.2 h2).trans (k.2 h2)⟩
theorem pJ.of {site:Option Nat} {S S2 M:St} (h:iM S S2) (k:pJ site S2 M):pJ site S M:=by
  cases site with
  | some r =>
    obtain ⟨k1,k2⟩:=k
    refine ⟨k1.trans h.2.1,fun r' hr=>?_⟩
    rw [k2 r' hr,h.1]
  | none=>exact Eq.trans k h.1
theorem rG.after {pl:bA} {aj:Array Oper} {x y:Oper} {S:St} {v:AV} {m n:Option St} (hk:rG pl aj y (gJ S x.dst v m) n) (hx:rG pl aj x S m) (hc:tj pl aj x y):rG pl aj y S n:=by
  refine ⟨hk.1,fun M e=>?_⟩
  have h2:eG pl y=2:=by
    cases Nat.decEq (eG pl y) 2 with
    | isTrue h=>exact h
    | isFalse h=>have:=hk.1 h; rw [this] at e; cases e
  have hm:m=none:=hx.1 fun h=>(hc h).1 h2
  subst hm
  exact pJ.of ti (hk.2 M e)
theorem rG.before {pl:bA} {aj:Array Oper} {x y:Oper} {S:St} {v:AV} {m n:Option St} (hx:rG pl aj x S m) (hy:rG pl aj y S n) (hc:tj pl aj x y):rG pl aj x (gJ S y.dst v n) m:=by
  refine ⟨hx.1,fun M e=>?_⟩
  have h2:eG pl x=2:=by
    cases Nat.decEq (eG pl x) 2 with
    | isTrue h=>exact h
    | isFalse h=>have:=hx.1 h; rw [this] at e; cases e
  have hn:n=none:=hy.1 fun h=>(hc h2).1 h
  subst hn
  exact pJ.of ti.symm (hx.2 M e)
theorem EN {C:Ctx} (hC:fk C) {pl:bA} {aj:Array Oper} {oi oj:Oper} {v:AV} {m:Option St} (hap:sk pl aj oi oj=true) {K:St→Prop} {S:St}
    (hy:Eff C pl aj oi S v m) (h:ag C pl aj oj (gJ S oi.dst v m) K):ag C pl aj oj S fun S'=>Eff C pl aj oi S' v m∧K (gJ S' oi.dst v m):=by
  obtain ⟨hap,hc1,hc2,_,hez⟩:=yc hap
  obtain ⟨h1,h2,h3⟩:=Oper.apart_spec hap
  obtain ⟨u,n,hj,hk⟩:=Ce hC hez h
  have hjk:rG pl aj oj S n:=hj.1.after hy.1 hc1
  refine hj.2 S (fun d hd=>(Cf (fun e=>h1 d e hd)).symm) (yd hy.1 hc1).symm _ ⟨⟨hy.1.before hjk hc1,fun S2 ha hm K2 hk2=>hy.2 S2 (fun d hd=>(ha d hd).trans (Cf (fun e=>h3 d e hd))) ((yd hjk hc2).trans hm) K2 hk2⟩,?_⟩
  rw [← Bh h2 ?_]
  · exact hk
  · by_cases h12:eG pl oi=2
    · exact .inr (hj.1.1 (hc1 h12).1)
    · exact .inl (hy.1.1 h12)
theorem tk {f:Nat→Edge→Nat} {acc:List Nat} {i:Nat} (hf:∀ s e,Nat.testBit (f s e) i=true→Nat.testBit s i=true∨(Region.binds .any e=true∧(e.on=i∨Nat.testBit (acc.getD e.on 0) i=true))):∀ (l:List Edge) (s:Nat),Nat.testBit (l.foldl f s) i=true →
    Nat.testBit s i=true∨∃ e∈l,Region.binds .any e=true∧(e.on=i∨Nat.testBit (acc.getD e.on 0) i=true)
  | [],s,h=>.inl h
  | e::l,s,h=>by
    rw [List.foldl_cons] at h
    rcases tk hf l _ h with h | ⟨e',he,h1,h2⟩
    · rcases hf _ _ h with h | ⟨h1,h2⟩
      · exact .inl h
      · exact .inr ⟨e,List.mem_cons_self,h1,h2⟩
    · exact .inr ⟨e',List.mem_cons_of_mem _ he,h1,h2⟩
theorem j2 (o:Oper) (os:List Oper) (acc:List Nat):∃ b,bM (o::os) acc=bM os (acc++[b])∧∀ i,Nat.testBit b i=true→∃ e∈o.after,Region.binds .any e=true∧(e.on=i∨Nat.testBit (acc.getD e.on 0) i=true):=by
  refine ⟨_,rfl,fun i h=>?_⟩
  have hz:Nat.testBit 0 i=true→False:=fun h=>by simp at h
  refine (tk (acc:=acc) (fun s e h=>?_) _ _ h).elim (fun h=>(hz h).elim) (fun ⟨e,he,h1,h2⟩=>⟨e,by simpa using he,h1,h2⟩)
  split at h
  · rename_i hb
    have h':Nat.testBit (s ||| (2 ^ e.on ||| acc.getD e.on 0)) i=true:=h
    rw [Nat.testBit_or,Nat.testBit_or,Nat.testBit_two_pow] at h'
    simp only [Bool.or_eq_true,decide_eq_true_eq] at h'
    rcases h' with h' | h' | h'
    · exact .inl h'
    · exact .inr ⟨hb,.inl h'⟩
    · exact .inr ⟨hb,.inr h'⟩
  · exact .inl h
theorem nm:∀ (os:List Oper) (acc:List Nat),∃ l,bM os acc=acc++l
  | [],acc=>⟨[],by simp [bM]⟩
  | o::os,acc=>by
    obtain ⟨b,h1,_⟩:=j2 o os acc
    obtain ⟨l,h⟩:=nm os (acc++[b])
    exact ⟨b::l,by rw [h1,h,List.append_assoc]; rfl⟩
theorem nn:∀ (os:List Oper) (acc:List Nat) (j:Nat) (o:Oper) (i:Nat),os[j]?=some o→Nat.testBit ((bM os acc).getD (acc.length + j) 0) i=true →
    ∃ e∈o.after,Region.binds .any e=true∧(e.on=i∨Nat.testBit ((bM os acc).getD e.on 0) i=true)
  | [],_,_,_,_,h,_=>by simp at h
  | o0::os,acc,0,o,i,h,hb=>by
    simp only [List.getElem?_cons_zero,Option.some.injEq] at h
    subst h
    obtain ⟨b,h1,h2⟩:=j2 o0 os acc
    obtain ⟨l,hl⟩:=nm os (acc++[b])
    rw [h1,hl,List.append_assoc] at hb ⊢
    have e1:(acc++([b]++l)).getD (acc.length + 0) 0=b:=by
      simp [List.getD_eq_getElem?_getD]
    rw [e1] at hb
    obtain ⟨e,he,h3,h4⟩:=h2 i hb
    refine ⟨e,he,h3,h4.imp id (fun h=>?_)⟩
    by_cases hlt:e.on<acc.length
    · rw [List.getD_eq_getElem?_getD,List.getElem?_append_left hlt,← List.getD_eq_getElem?_getD]
      exact h
    · rw [List.getD_eq_getElem?_getD,List.getElem?_eq_none (by omega)] at h
      simp at h
  | o0::os,acc,j + 1,o,i,h,hb=>by
    obtain ⟨b,h1,h2⟩:=j2 o0 os acc
    rw [h1] at hb ⊢
    refine nn os _ j o i (by simpa using h) ?_
    have:(acc++[b]).length + j=acc.length + (j + 1):=by simp; omega
    rw [this]
    exact hb
theorem waits {aj:Array Oper} {j i:Nat} {o:Oper} (hj:aj[j]?=some o) (h:Nat.testBit ((bM aj.toList []).getD j 0) i=true) :
    ∃ e∈o.after,Region.binds .any e=true∧(e.on=i∨Nat.testBit ((bM aj.toList []).getD e.on 0) i=true) :=
  nn aj.toList [] j o i (by simpa using hj) (by simpa using h)
def Closed (aj:Array Oper) (listed:Array Bool):Prop:=∀ j,listed.getD j false=true→∀ i,Nat.testBit ((bM aj.toList []).getD j 0) i=true→listed.getD i false=true
theorem Ch {listed:Array Bool} {i:Nat} (h:listed.getD i true=false):listed.getD i false=true→False:=by
  intro h2
  simp only [Array.getD_eq_getD_getElem?] at h h2
  cases hh:listed[i]? with
  | none=>rw [hh] at h; simp at h
  | some b=>rw [hh] at h h2; simp at h h2; rw [h] at h2; cases h2
theorem Closed.ready {aj:Array Oper} {listed:Array Bool} (hc:Closed aj listed) {j:Nat} (hj:j∈Region.ready .any aj listed) {i:Nat} (hb:Nat.testBit ((bM aj.toList []).getD j 0) i=true):listed.getD i false=true:=by
  obtain ⟨_,o,ho,hall⟩:=mem_ready.1 hj
  obtain ⟨e,he,h1,h2⟩:=waits ho hb
  rcases h2 with h2 | h2
  · rw [← h2]; exact hall e he h1
  · exact hc _ (hall e he h1) _ h2
theorem tl {listed:Array Bool} {i j:Nat} (h:listed.getD i false=true):(listed.setIfInBounds j true).getD i false=true:=by
  by_cases hij:j=i
  · subst hij
    simp only [Array.getD_eq_getD_getElem?] at *
    cases hh:listed[j]? with
    | none=>rw [hh] at h; simp at h
    | some b =>
      have:=(Array.getElem?_eq_some_iff.1 hh).1
      simp [this]
  · rw [getD_set_ne false hij]; exact h
theorem Closed.set {aj:Array Oper} {listed:Array Bool} (hc:Closed aj listed) {j:Nat} (hj:j∈Region.ready .any aj listed):Closed aj (listed.setIfInBounds j true):=by
  intro k hk i hb
  by_cases hjk:j=k
  · subst hjk
    exact tl (hc.ready hj hb)
  · rw [getD_set_ne false hjk] at hk
    exact tl (hc k hk i hb)
theorem mt {aj:Array Oper} {listed:Array Bool} {i j:Nat} (hi:i∈Region.ready .any aj listed) (hne:j≠i):i∈Region.ready .any aj (listed.setIfInBounds j true):=by
  obtain ⟨h1,o,ho,h2⟩:=mem_ready.1 hi
  exact mem_ready.2 ⟨by rw [getD_set_ne true hne]; exact h1,o,ho,fun e he hb=>tl (h2 e he hb)⟩
def Ci (C:Ctx) (pl:bA) (aj:Array Oper) (i:Nat) (K:St→Prop) (S:St):Prop :=
  match aj[i]? with
  | none=>K S
  | some o=>ag C pl aj o S K
def ye (C:Ctx) (pl:bA) (aj:Array Oper) (Q:St→Prop):Nat→Array Bool→St→Prop
  | 0,listed,S=>Region.ready .any aj listed=[]∧Q S
  | fuel + 1,listed,S=>(Region.ready .any aj listed=[]→Q S)∧∀ i∈Region.ready .any aj listed,Ci C pl aj i (ye C pl aj Q fuel (listed.setIfInBounds i true)) S
theorem z8 {C:Ctx} (hC:fk C) {pl:bA} {aj:Array Oper} {o:Oper} {S:St} {K K':St→Prop} (h:ag C pl aj o S K) (hk:∀ S,K S→K' S):ag C pl aj o S K':=by
  obtain ⟨S',h1,h2⟩:=B9 hC _ h
  exact h2 K' (hk _ h1)
def Fr (pl:bA) (aj:Array Oper) (listed:Array Bool) (i:Nat) (oi:Oper):Prop:=∀ j oj,aj[j]?=some oj→j≠i→listed.getD j true=false→Nat.testBit ((bM aj.toList []).getD j 0) i=false→sk pl aj oi oj=true
theorem zr {C:Ctx} (hC:fk C) {pl:bA} {aj:Array Oper} {Q:St→Prop} {i:Nat} {oi:Oper} {v:AV} {m:Option St} (hi:aj[i]?=some oi) :
    ∀ (fuel:Nat) (listed:Array Bool) (S:St),Closed aj listed→Fr pl aj listed i oi→i∈Region.ready .any aj listed→Eff C pl aj oi S v m →
      ye C pl aj Q fuel (listed.setIfInBounds i true) (gJ S oi.dst v m)→ye C pl aj Q (fuel + 1) listed S:=by
  have here:∀ {S:St} {K:St→Prop},Eff C pl aj oi S v m→K (gJ S oi.dst v m)→Ci C pl aj i K S:=by
    intro S K hy hk
    unfold Ci
    rw [hi]
    exact hy.2 S (fun _ _=>rfl) (.of (iM.refl S)) K hk
  intro fuel
  induction fuel with
  | zero =>
    intro listed S _ _ hr hy H
    refine ⟨fun h=>(by rw [h] at hr; cases hr),fun j hj=>?_⟩
    by_cases hji:j=i
    · subst hji; exact here hy H
    · have:=mt hj (fun e=>hji e.symm)
      rw [H.1] at this
      cases this
  | succ fuel ih =>
    intro listed S hcl hfree hr hy H
    refine ⟨fun h=>(by rw [h] at hr; cases hr),fun j hj=>?_⟩
    by_cases hji:j=i
    · subst hji; exact here hy H
    · have h1:=H.2 j (mt hj (fun e=>hji e.symm))
      obtain ⟨hjun,oj,hoj,hall⟩:=mem_ready.1 hj
      have hnot:Nat.testBit ((bM aj.toList []).getD j 0) i=false:=by
        cases hb:Nat.testBit ((bM aj.toList []).getD j 0) i with
        | false=>rfl
        | true=>exact (Ch (mem_ready.1 hr).1 (hcl.ready hj hb)).elim
      unfold Ci at h1 ⊢
      rw [hoj] at h1 ⊢
      have h2:=EN hC (hfree j oj hoj hji hjun hnot) hy h1
      have hfree':Fr pl aj (listed.setIfInBounds j true) i oi:=fun k ok hk hki hun hno=>by
        refine hfree k ok hk hki ?_ hno
        by_cases hjk:j=k
        · subst hjk; exact hjun
        · rw [getD_set_ne true hjk] at hun; exact hun
      refine z8 hC h2 (fun S' h3=>ih (listed.setIfInBounds j true) S' (hcl.set hj) hfree' (mt hr (fun e=>hji e)) h3.1 ?_)
      rw [Array.setIfInBounds_comm _ _ hji]
      exact h3.2
theorem zt {pl:bA} {aj:Array Oper} {listed:Array Bool} {i:Nat} {oi:Oper} (hi:aj[i]?=some oi) (h:zY pl aj (bM aj.toList []) listed i=true):Fr pl aj listed i oi:=by
  intro j oj hj hji hun hno
  unfold zY at h
  rw [hi] at h
  have hlt:j<aj.size:=(Array.getElem?_eq_some_iff.1 hj).1
  have:=List.all_eq_true.1 h j (List.mem_range.2 hlt)
  rw [hj] at this
  simp only [hun,hno,Bool.or_eq_true,Bool.or_false] at this
  rcases this with h | h
  · exact absurd (Nat.eq_of_beq_eq_true h) hji
  · simpa using h
theorem EO {x y:Value} (h:Gu x y=true):x=y:=by
  unfold Gu at h
  split at h
  · simp at h; rw [h]
  · simp at h; rw [h.1,h.2]
  · rename_i a b
    have h':=eq_of_beq h
    congr 1
    have:a.data=b.data:=Array.ext' h'
    cases a; cases b; simp_all
  · cases h
theorem EP {x y:Key} (h:Gv x y=true):x=y:=by
  unfold Gv at h
  split at h
  · rw [Nat.eq_of_beq_eq_true h]
  · rw [Nat.eq_of_beq_eq_true h]
  · cases h
theorem fT {α:Type} {f:α→α→Bool} (hf:∀ x y,f x y=true→x=y):∀ {xs ys:List α},xt f xs ys=true→xs=ys
  | [],[],_=>rfl
  | x::xs,y::ys,h=>by
    unfold xt at h
    simp only [Bool.and_eq_true] at h
    rw [hf x y h.1,fT hf h.2]
  | [],_::_,h=>by cases h
  | _::_,[],h=>by cases h
theorem qD:∀ (n:Nat) (x y:AV),AT n x y=true→x=y
  | 0,_,_,h=>by cases h
  | n + 1,x,y,h=>by
    have ih:=qD n
    have nb:∀ {a b:Nat},Nat.beq a b=true→a=b:=fun h=>Nat.eq_of_beq_eq_true h
    unfold AT at h
    split at h <;> first | rfl | (cases h; done) | skip
    · rw [EO h]
    · simp only [Bool.and_eq_true] at h; rw [EP h.1.1,nb h.1.2,nb h.2]
    · simp only [Bool.and_eq_true] at h; rw [fT ih h.1,nb h.2]
    · rw [fT (fun _ _ h=>fT ih h) h]
    · rw [nb h]
    · simp only [Bool.and_eq_true] at h; rw [nb h.1.1.1,nb h.1.1.2,nb h.1.2,nb h.2]
    · rw [nb h]
    · simp only [Bool.and_eq_true] at h; rw [nb h.1.1,fT ih h.1.2,fT ih h.2]
    · rw [fT ih h]
    · rw [fT ih h]
theorem Dw (x y:Ob) (h:EE x y=true):x=y:=by
  unfold EE at h
  split at h
  · simp only [Bool.and_eq_true,beq_iff_eq] at h
    rw [h.1.1,Nat.eq_of_beq_eq_true h.1.2,fT (fun _ _ h=>fT (qD 8) h) h.2]
  · simp only [Bool.and_eq_true,beq_iff_eq] at h
    rw [h.1,fT (fun (x y:AV×AV) h=>by
      simp only [Bool.and_eq_true] at h
      exact Prod.ext (qD 8 _ _ h.1) (qD 8 _ _ h.2)) h.2]
  · rfl
  · cases h
theorem Dx {S S':St} (h:EF S S'=true):S=S':=by
  unfold EF at h
  simp only [Bool.and_eq_true] at h
  obtain ⟨t,l,o,b⟩:=S
  obtain ⟨t',l',o',b'⟩:=S'
  simp only at h
  rw [fT (qD 8) h.1.1.1,fT (fun (x y:Nat×List AV) h=>by
    simp only [Bool.and_eq_true] at h
    exact Prod.ext (Nat.eq_of_beq_eq_true h.1) (fT (qD 8) h.2)) h.1.1.2,fT Dw h.1.2,Nat.eq_of_beq_eq_true h.2]
theorem Bi {S2 S1:St} {X:Prop} (h:qS S2 S1 X):S2=S1∧X:=by
  unfold qS at h
  split at h
  · rename_i he; exact ⟨Dx he,h⟩
  · exact h
theorem yf {go:Nat→(St→Prop)→Prop} (hg:∀ i,av (go i)):∀ {is:List Nat} {S1:St} {X:Prop},yR go is S1 X→X∧∀ i∈is,go i fun S2=>S2=S1
  | [],_,_,h=>⟨h,fun i hi=>by cases hi⟩
  | i::is,S1,X,h=>by
    obtain ⟨S2,h1,h2⟩:=hg i _ h
    obtain ⟨h3,h4⟩:=Bi h1
    obtain ⟨h5,h6⟩:=yf hg h4
    refine ⟨h5,fun k hk=>?_⟩
    rcases List.mem_cons.1 hk with rfl | hk
    · exact h2 _ h3
    · exact h6 k hk
theorem np {pl:bA} {aj:Array Oper} {ws:List Nat} {listed:Array Bool}:∀ {is:List Nat} {k:Nat},l5 pl aj ws listed is=some k→k∈is∧zY pl aj ws listed k=true∧∃ o,aj[k]?=some o∧yQ (eG pl o)=true
  | [],_,h=>by cases h
  | i::is,k,h=>by
    unfold l5 at h
    split at h
    · rename_i hb
      cases h
      simp only [Bool.and_eq_true] at hb
      refine ⟨List.mem_cons_self,hb.2,?_⟩
      have h1:=hb.1
      split at h1
      · rename_i o ho; exact ⟨o,ho,h1⟩
      · cases h1
    · obtain ⟨h1,h2⟩:=np h
      exact ⟨List.mem_cons_of_mem _ h1,h2⟩
theorem tm {C:Ctx} {pl:bA} {aj:Array Oper} {i:Nat} {S:St} {K:St→Prop} (h:u5 C pl aj i S K):Ci C pl aj i K S:=by
  unfold u5 at h
  unfold Ci
  split at h
  · exact False.elim h
  · rename_i o ho
    rw [ho]
    exact h
theorem Cj {C:Ctx} (hC:fk C) {pl:bA} {aj:Array Oper} {i:Nat} {S:St} {K K':St→Prop} (h:Ci C pl aj i K S) (hk:∀ S,K S→K' S):Ci C pl aj i K' S:=by
  unfold Ci at h ⊢
  split
  · rename_i ho; rw [ho] at h; exact hk _ h
  · rename_i o ho; rw [ho] at h; exact z8 hC h hk
theorem pK {C:Ctx} (hC:fk C) {pl:bA} {aj:Array Oper} {Q:St→Prop}:∀ (n:Nat) (listed:Array Bool) (S:St),Closed aj listed→iq C pl aj (bM aj.toList []) n listed S Q→ye C pl aj Q n listed S
  | 0,listed,S,_,h=>by
    unfold iq at h
    split at h
    · rename_i he; exact ⟨he,h⟩
    · exact False.elim h
  | n + 1,listed,S,hcl,h=>by
    unfold iq at h
    split at h
    · rename_i he
      exact ⟨fun _=>h,fun i hi=>by rw [he] at hi; cases hi⟩
    · rename_i r rs he
      split at h
      · rename_i k hk
        obtain ⟨hm,hf,o,ho,hez⟩:=np hk
        rw [← he] at hm
        have h1:=tm h
        unfold Ci at h1
        rw [ho] at h1
        obtain ⟨v,m,hy,hK⟩:=Ce hC hez h1
        exact zr hC ho n listed S hcl (zt ho hf) hm hy (pK hC n _ _ (hcl.set hm) hK)
      · have hdet:∀ i,av (fun K':St→Prop=>u5 C pl aj i S fun S'=>iq C pl aj (bM aj.toList []) n (listed.setIfInBounds i true) S' K'):=fun i=>av.bind (eN hC) (fun S'=>eB hC n _ S')
        obtain ⟨S1,h1,h2⟩:=hdet r _ h
        obtain ⟨h3,h4⟩:=yf hdet h1
        refine ⟨fun h0=>(by rw [he] at h0; cases h0),fun i hi=>?_⟩
        have hi':=hi
        rw [he] at hi'
        have hgo:u5 C pl aj i S fun S'=>iq C pl aj (bM aj.toList []) n (listed.setIfInBounds i true) S' Q:=by
          rcases List.mem_cons.1 hi' with rfl | hi'
          · exact h2 Q h3
          · obtain ⟨S2,h5,h6⟩:=hdet i _ (h4 i hi')
            exact h6 Q (by rw [h5]; exact h3)
        exact Cj hC (tm hgo) (fun S' h=>pK hC n _ S' (hcl.set hi) h)
open Go.RowKit (Below)
def ZR (P:Program) (e:TypeId) (cs:List AV):Prop:=∃ i z,P.info? e=some i∧i.zero=some z∧∀ E,bU E cs z.cells.toList
theorem zu (k:Key) (c:Value):cE 4 k (r8 c)=r8 c:=by
  unfold r8
  split <;> rfl
theorem tn {P:Program} {e:TypeId} {k:List AV→Prop} (h:cr P e k):∃ cs,ZR P e cs∧k cs∧∀ k:Key,cs.map (cE 4 k)=cs:=by
  unfold cr at h
  split at h
  · rename_i i hi
    split at h
    · rename_i z hz
      obtain ⟨h1,h2⟩:=ad h
      rw [fZ] at h2
      obtain ⟨i',z',cs,hi',hz',_,he,hcs⟩:=cL (P:=P) (e:=e) (k:=fun cs=>cs=z.cells.toList.map r8) (by
        unfold cr
        rw [hi]
        dsimp only
        rw [hz]
        dsimp only
        refine ap h1 ?_
        rw [fZ])
      subst he
      refine ⟨_,⟨i',z',hi',hz',hcs⟩,h2,fun k=>?_⟩
      rw [List.map_map]
      exact List.map_congr_left fun c _=>zu k c
    · exact False.elim h
  · exact False.elim h
theorem ai.drawn {G:Gh} {p:Nat→Option (List AV)} {E:Env} {S:St} {w:World} {n:Nat} (h:ai G p E S w):ai G p E S { w with drawn:=n } :=
  ⟨h.hp,h.os,h.tape,h.output,h.size,h.keep,h.F0,h.Flt,h.Fnew,h.own,h.inj,h.loc,h.obj,h.old,h.bl,h.szs,h.pk,h.ow⟩
theorem fH.congr {p p':Nat→Option (List AV)} {E:Env} {x:Option (List AV)} {d:Nat} (h:fH p E x d) (hp:p' d=p d):fH p' E x d:=by
  unfold fH at *
  cases x with
  | none=>exact h
  | some row =>
    rcases h with h | ⟨h1,h2,h3⟩
    · exact .inl h
    · exact .inr ⟨h1,hp.trans h2,h3⟩
def jn (o:Oper) (p:Nat→Option (List AV)):Nat→Option (List AV) :=
  match o.op,o.dst with
  | .alloc _,some d=>fun x=>if x=d then none else p x
  | _,_=>p
theorem jo {o:Oper} {p:Nat→Option (List AV)} (h:∀ e,o.op≠.alloc e):jn o p=p:=by
  unfold jn
  split
  · rename_i e d ho _
    exact (h _ ho).elim
  · rfl
theorem lk {o:Oper} {p:Nat→Option (List AV)} {e:TypeId} {d:Nat} (h:o.op=.alloc e) (hd:o.dst=some d):jn o p=fun x=>if x=d then none else p x:=by
  unfold jn
  rw [h,hd]
section
variable {G:Gh} {p:Nat→Option (List AV)} {E:Env} {S:St} {w:World} {C:Ctx} {pl:bA} {o:Oper} {a:Act} {K:St→Prop}
theorem wN {d:Nat} {e:TypeId} {cs:List AV} (hM:ai G p E S w) (ht:TR E S.t a) (ho:o.op=.alloc e) (hd:o.dst=some d) (hp:p d=some cs) (hz:ZR C.P e cs) (hpos:0<cs.length)
    (h:K (jc S (some d) (.ptr (.L d) 0 0))) (next:Act→World→Prop) (Q:Exit→Act→World→Prop)
    (hn:∀ S' E' a' w',K S'→ai G (jn o p) E' S' w'→TR E' S'.t a'→next a' w'):o.wp C.P a w next Q:=by
  obtain ⟨i,z,hi,hz,hcs⟩:=hz
  obtain ⟨hmu,hrow⟩:=hM.pk d cs hp
  have hrun:(execOp a.eval o).run C.P w=.ok (.value (.pointer (some ⟨w.heap.size,0,none⟩))) { w with heap:=w.heap.push (.cells z.cells e) }:=by
    simp [execOp,ho,Instr.alloc,cv hi hz,nP]
  refine cT hrun ?_
  have arr:∀ {E1:Env},bU E1 cs z.cells.toList→cb E1 (w.heap.push (.cells z.cells e)) [cs] w.heap.size 0 cs.length:=by
    intro E1 hcs1
    refine cb.of_rows hpos (fun r hr=>by simp at hr; subst hr; rfl) (dj w _) (by have:=hcs1.1; simp at this; simp; omega) (fun i row r c h1 h2=>?_)
    cases i with
    | zero =>
      simp at h1
      subst h1
      obtain ⟨u,hu,hv⟩:=hcs1.get h2
      exact ⟨u,by simpa using hu,hv⟩
    | succ i=>simp at h1
  rw [lk ho hd] at hn
  obtain ⟨hle,hS⟩:=hM.newkey' (p':=fun x=>if x=d then none else p x) (ob:=.cells z.cells e) (key:=.L d) (sz:=cs.length) (n:=1) (fun x hx=>if_neg fun h=>hx (by rw [h])) (fun x hx=>by cases hx; exact if_pos rfl) hmu
    (M':=S) (fun _ _=>rfl) (fun _ _=>rfl) rfl hM.bl (fun id he=>by cases he)
    (fun e he hle=>by
      cases he
      rw [hrow]
      refine .inl ⟨w.heap.size,?_,arr (hcs _)⟩
      show aD E.mu (.L d) _ (.L d)=_
      unfold aD
      rw [if_pos rfl])
    (fun id he=>by cases he) yW
  refine hn _ _ _ _ h (hS.congr ck cm cu) ?_
  have:=(ht.mono hle).put (S:=S) (dst:=o.dst) (c:=.ptr (.L d) 0 0) (u:=.pointer (some ⟨w.heap.size,0,none⟩)) (by
    have hmu':aD E.mu (.L d) (.blk w.heap.size 0 cs.length 1) (.L d)=some (.blk w.heap.size 0 cs.length 1):=by unfold aD; rw [if_pos rfl]
    have:=VR.ptr (E:=⟨E.F,aD E.mu (.L d) (.blk w.heap.size 0 cs.length 1),w.heap.push (.cells z.cells e)⟩) 0 0 rfl hmu'
    simpa using this)
  rw [hd] at this ⊢
  exact this
theorem Bj {e:TypeId} (ho:o.op=.alloc e):eG pl o=4:=by
  have hw:eT pl o=false:=by unfold eT; rw [ho]
  unfold eG
  rw [hw]
  dsimp only
  unfold u4
  rw [ho]
theorem yg {C:Ctx} (hC:dK C) {pl:bA} {o:Oper} {S:St} {K:St→Prop} {G:Gh} {pd:Nat→Option (List AV)} {E:Env} {w:World} {a:Act} {c:Call} (hM:ai G pd E S w) (ht:TR E S.t a) (ho:o.op=.call c) (h:nd C pl o S K):cK C.P G pd o a w K:=by
  unfold nd at h
  obtain ⟨vs,h,hv⟩:=cG ht h
  have hw:eT pl o=false:=by unfold eT; rw [ho]
  unfold kT at h
  rw [hw] at h
  dsimp only at h
  unfold jJ at h
  rw [ho] at h hv
  split at h
  · rename_i he; cases he
  · rename_i c' fid first cap as he
    cases he
    split at h
    · rename_i x hcal
      obtain ⟨h1,h⟩:=ad h
      simp only [Bool.and_eq_true] at h1
      have hv:bU E (.fn fid first cap::as) (a.eval x::c.args.toList.map a.eval):=by simpa [Op.operands,Call.operands,hcal] using hv
      obtain ⟨u,us,e,hf,has⟩:=hv.uncons
      cases e
      obtain ⟨g1,g2⟩:=hC.scall _ _ _ _ h
      refine q_ hM ht ho hcal hf has h1.2 ⟨g1,fun E w us hM hg hv=>(g2 E w us hM hg hv).mono ?_⟩
      rintro e w' ⟨v,r,o',E',hk,rest⟩
      obtain ⟨h4,h5⟩:=ad hk
      refine ⟨v,r,o',E',?_,rest⟩
      have h4:bL S.o o' 0=[]:=List.isEmpty_iff.1 h4
      show iD (bL S.o o' 0) S.t S.l _
      rw [h4]
      exact h5
    · exact h.elim
  · rename_i hne
    unfold u0 at h
    rw [ho] at h
    exact h.elim
theorem yh {C:Ctx} (hC:dK C) {pl:bA} {o:Oper} {S:St} {K:St→Prop} {G:Gh} {pd:Nat→Option (List AV)} {E:Env} {w:World} {a:Act} (hM:ai G pd E S w) (ht:TR E S.t a) (h:nd C pl o S K):cK C.P G pd o a w K:=by
  cases hw:eT pl o with
  | true =>
    refine sO (pl:=pl) hM ht ?_
    unfold nd at h
    unfold v9
    have e:∀ vs M k,kT C pl o vs M k=jD C.P pl o vs M k:=fun vs M k=>by unfold kT; rw [hw]
    simp only [e] at h
    exact h
  | false =>
  have e:∀ vs M k,kT C pl o vs M k=jJ C o vs M k:=fun vs M k=>by unfold kT; rw [hw]
  by_cases hmk:vB pl o
  · rcases hmk with (⟨t,X,Y,ho⟩ | ⟨c,ho⟩) | hmk
    rotate_left
    · exact yg hC hM ht ho h
    · rw [hw] at hmk; cases hmk
    refine lB hM ht ho ?_
    unfold nd at h
    simp only [e] at h
    rw [ho] at h
    have h':cy S X fun l=>cy S Y fun c=>bP C.P t l c (cC S) fun M' r=>br o.dst r (ey S M') K:=by
      have h:cy S X fun l=>cy S Y fun c=>jJ C o [l,c] (cC S) fun r M=>br o.dst r (ey S M) K:=h
      obtain ⟨l,h1,h2⟩:=bX _ h
      obtain ⟨c,h3,h4⟩:=bX _ h1
      refine h2 (fun l=>cy S Y fun c=>bP C.P t l c (cC S) fun M' r=>br o.dst r (ey S M') K) (h4 (fun c=>bP C.P t l c (cC S) fun M' r=>br o.dst r (ey S M') K) ?_)
      unfold jJ at h3
      rw [ho] at h3
      exact h3
    obtain ⟨l,h1,h2⟩:=bX _ h'
    obtain ⟨c,h3,h4⟩:=bX _ h1
    refine h2 (fun l=>cy S Y fun c=>bP C.P t l c S fun S' r=>br o.dst r S' K) (h4 (fun c=>bP C.P t l c S fun S' r=>br o.dst r S' K) ?_)
    unfold bP at h3 ⊢
    exact h3
  · refine sS hM ht ?_
    unfold nd at h
    unfold AR
    obtain ⟨vs,h1,h2⟩:=aX _ h
    refine h2 (fun vs=>u0 C o vs (cC S) fun r M=>br o.dst r (ey S M) K) ?_
    rw [og hmk] at h1
    exact h1
theorem Bl (hC:dK C) (hM:ai G p E S w) (ht:TR E S.t a) (hA:∀ e d,o.op=.alloc e→o.dst=some d→∃ cs,p d=some cs∧0<cs.length∧ZR C.P e cs) (h:uj C pl o S K) (next:Act→World→Prop) (Q:Exit→Act→World→Prop)
    (hn:∀ S' E' a' w',K S'→ai G (jn o p) E' S' w'→TR E' S'.t a'→next a' w'):o.wp C.P a w next Q:=by
  by_cases hal:∃ e,o.op=.alloc e
  · obtain ⟨e,ho⟩:=hal
    unfold uj at h
    rw [Bj ho] at h
    have h':match o.dst with
      | some d=>br o.dst (.ptr (.L d) 0 0) S K
      | none=>ah 217:=h
    split at h'
    · rename_i d hd
      obtain ⟨cs,h3,h4,h5⟩:=hA e d ho hd
      rw [aE,hd] at h'
      exact wN hM ht ho hd h3 h5 h4 h' next Q hn
    · exact False.elim h'
  · rw [jo (fun e he=>hal ⟨e,he⟩)] at hn
    unfold uj at h
    split at h
    · exact sQ hM ht h next Q hn
    · exact sR hC hM ht h next Q hn
    · exact yh hC hM ht h next Q hn
    · rename_i hc
      exfalso
      unfold eG at hc
      rw [vD (by unfold eG; rw [hc]; decide)] at hc
      dsimp only at hc
      unfold u4 at hc
      split at hc
      · split at hc <;> cases hc
      · rename_i e ho; exact hal ⟨e,ho⟩
      · cases hc
      · split at hc
        · split at hc
          · cases hc
          · split at hc <;> cases hc
        · cases hc
        · split at hc <;> cases hc
        · unfold BV at hc
          split at hc <;> try (cases hc; done)
          all_goals (split at hc <;> cases hc)
      · unfold BV at hc
        split at hc <;> try (cases hc; done)
        all_goals (split at hc <;> cases hc)
    · exact y_ hM ht h next Q hn
    · split at h
      · exact False.elim h
      · rename_i hb
        exact vo hC (fun he=>by rw [hb] at he; cases he) hM ht h next Q hn
end
def Inv (P:Program) (p:Nat→Option (List AV)) (aj:Array Oper) (listed:Array Bool):Prop :=
  ∀ (i:Nat) (o:Oper) (e:TypeId) (d:Nat),aj[i]?=some o→o.op=.alloc e→o.dst=some d→listed.getD i true=false→∃ cs,p d=some cs∧0<cs.length∧ZR P e cs
def wO (aj:Array Oper):Prop:=∀ (i i':Nat) (o o':Oper) (e e':TypeId) (d:Nat),aj[i]?=some o→aj[i']?=some o'→o.op=.alloc e→o'.op=.alloc e'→o.dst=some d→o'.dst=some d→i=i'
theorem zv {listed:Array Bool} {i:Nat}:(listed.setIfInBounds i true).getD i true=true:=by
  simp only [Array.getD_eq_getD_getElem?,Array.getElem?_setIfInBounds,if_pos]
  split <;> rfl
theorem Inv.step {P:Program} {p:Nat→Option (List AV)} {aj:Array Oper} {listed:Array Bool} {i:Nat} {o:Oper} (h:Inv P p aj listed) (hap:wO aj) (hi:aj[i]?=some o) :
    Inv P (jn o p) aj (listed.setIfInBounds i true):=by
  intro j oj e d hj hoj hdj hjun
  have hij:i≠j:=fun he=>by subst he; rw [zv] at hjun; cases hjun
  rw [getD_set_ne true hij] at hjun
  obtain ⟨cs,h1,h2⟩:=h j oj e d hj hoj hdj hjun
  refine ⟨cs,?_,h2⟩
  by_cases hal:∃ e,o.op=.alloc e
  · obtain ⟨e',ho⟩:=hal
    cases hd:o.dst with
    | none =>
      unfold jn
      rw [ho,hd]
      exact h1
    | some d' =>
      rw [lk ho hd]
      show (if d=d' then none else p d)=_
      rw [if_neg (fun he=>by subst he; exact hij (hap i j o oj e' e d hi hj ho hoj hd hdj))]
      exact h1
  · rw [jo (fun e he=>hal ⟨e,he⟩)]
    exact h1
theorem zw {o:Oper} {p:Nat→Option (List AV)} {d:Nat} (h:jn o p d≠none):p d≠none:=by
  by_cases hal:∃ e,o.op=.alloc e
  · obtain ⟨e',ho⟩:=hal
    cases hd:o.dst with
    | none =>
      unfold jn at h
      rw [ho,hd] at h
      exact h
    | some d' =>
      rw [lk ho hd] at h
      intro hn
      apply h
      show (if d=d' then none else p d)=none
      split
      · rfl
      · exact hn
  · rw [jo (fun e he=>hal ⟨e,he⟩)] at h
    exact h
def Q0 (Q:Exit→Act→World→Prop) (e:Exit) (a:Act) (w:World):Prop:=e=.normal∧Q .normal a w
theorem FQ {P:Program} {o:Oper} {a:Act} {w:World} {next:Act→World→Prop} {Q:Exit→Act→World→Prop} (h:o.wp P a w next (Q0 Q)):o.wp P a w next Q:=by
  unfold Oper.wp at *
  revert h
  generalize (execOp a.eval o).run P w=x
  intro h
  cases x with
  | ok x w' =>
    cases x with
    | enter f args=>exact Calls.mono h (fun e w'' he=>by
        cases e with
        | returned v=>exact he
        | panicked c=>exact absurd he.1 (fun h=>by cases h)
        | outgrown=>obtain ⟨_,_,h,_⟩:=he; cases h)
    | _=>exact h
  | halt x w' =>
    cases x with
    | panic v=>exact absurd h.1 (fun h=>by cases h)
    | _=>exact h
theorem Ck {aj:Array Oper} (h:Gl aj=true):Region.noSelect aj=true∧∀ (i:Nat) (o:Oper),aj[i]?=some o→∀ c,o.op≠.defer c:=by
  unfold Gl at h
  rw [Bool.and_eq_true] at h
  refine ⟨h.1,fun i o ho c hc=>?_⟩
  have:=List.all_eq_true.1 h.2 o (by rw [Array.mem_toList_iff]; exact Array.mem_of_getElem? ho)
  rw [hc] at this
  cases this
theorem pL {P:Program} {rr:Option Nat} {aj:Array Oper} {Q:Exit→Act→World→Prop} (hnd:∀ (i:Nat) (o:Oper),aj[i]?=some o→∀ c,o.op≠.defer c) :
    ∀ (fuel:Nat) (listed:Array Bool) (a:Act) (w:World),wpAny P .any aj (Q0 Q) fuel listed a w→wpAnyIn (rd rr) 0 P .any aj Q fuel listed a w
  | 0,_,_,_,h=>⟨h.1,h.2.2⟩
  | fuel + 1,listed,a,w,h=>by
    refine ⟨fun h0=>(h.1 h0).2,fun i hi=>?_⟩
    have h1:=h.2 i hi
    unfold wpOpIn
    unfold wpOp at h1
    split at h1
    · rename_i ho
      rw [ho]
      exact pL hnd fuel _ _ _ h1
    · rename_i o ho
      rw [ho]
      dsimp only
      split at h1
      · rename_i hw
        rw [if_pos hw]
        rcases h1 with h1 | ⟨_,_,_,h1,_⟩
        · exact vp (hnd i o ho) (FQ (Oper.wp_mono (fun a w h=>pL hnd fuel _ _ _ h) h1))
        · cases h1
      · rename_i hw
        rw [if_neg hw]
        exact ⟨fun _ _=>trivial,pL hnd fuel _ _ _ h1⟩
theorem ll {C:Ctx} (hC:dK C) {pl:bA} {aj:Array Oper} {G:Gh} {A:Nat→Prop} {Q:St→Prop} {Qc:Exit→Act→World→Prop} (hap:wO aj) (hg:∀ (i:Nat) (o:Oper) (e:TypeId),aj[i]?=some o→o.op=.alloc e→o.guard=none)
    (hQ:∀ p S' E' a' w',(∀ d,p d≠none→A d)→Q S'→ai G p E' S' w'→TR E' S'.t a'→Qc .normal a' w') :
    ∀ (fuel:Nat) (listed:Array Bool) (p:Nat→Option (List AV)) (S:St) (E:Env) (a:Act) (w:World),(∀ d,p d≠none→A d)→ai G p E S w→TR E S.t a→Inv C.P p aj listed→ye C pl aj Q fuel listed S→wpAny C.P .any aj Qc fuel listed a w
  | 0,_,_,_,_,_,_,hA,hM,ht,_,h=>⟨h.1,hQ _ _ _ _ _ hA h.2 hM ht⟩
  | fuel + 1,listed,p,S,E,a,w,hA,hM,ht,hI,h=>by
    refine ⟨fun h0=>hQ _ _ _ _ _ hA (h.1 h0) hM ht,fun i hi=>?_⟩
    have h1:=h.2 i hi
    obtain ⟨hun,o,ho,_⟩:=mem_ready.1 hi
    unfold Ci at h1
    unfold wpOp
    rw [ho] at h1 ⊢
    dsimp only at h1 ⊢
    have goon:∀ S' E' a' w',ye C pl aj Q fuel (listed.setIfInBounds i true) S'→ai G (jn o p) E' S' w'→TR E' S'.t a'→wpAny C.P .any aj Qc fuel (listed.setIfInBounds i true) a' w' :=
      fun S' E' a' w' hk hS htr=>ll hC hap hg hQ fuel _ _ S' E' a' w' (fun d hd=>hA d (zw hd)) hS htr (hI.step hap ho) hk
    have step:∀ {S1:St},ai G p E S1 w→TR E S1.t a→nI C pl aj o S1 (ye C pl aj Q fuel (listed.setIfInBounds i true))→Region.wanted o (yielded aj a.tmps)=true→(if Region.wanted o (yielded aj a.tmps) then o.wp C.P a w (wpAny C.P .any aj Qc fuel (listed.setIfInBounds i true)) Qc∨(o.asks C.P a w∧LetsOut Qc) else wpAny C.P .any aj Qc fuel (listed.setIfInBounds i true) (a.put o.dst undef) w):=by
      intro S1 hM1 ht1 h hw
      obtain ⟨_,h⟩:=ad h
      rw [if_pos hw]
      exact .inl (Bl hC hM1 ht1 (fun e d h1 h2=>hI i o e d ho h1 h2 hun) h _ _ goon)
    unfold ag at h1
    split at h1
    · rename_i hgd
      exact step hM ht h1 (by unfold Region.wanted; rw [hgd])
    · rename_i j want hgd
      split at h1
      · exact False.elim h1
      · rename_i d hd
        obtain ⟨b,S1,h1,hb,hM1,ht1⟩:=iS hM ht h1
        rcases jM hgd (k9 hd hb) h1 with ⟨hw,h1⟩ | ⟨hw,h1⟩
        · exact step hM1 ht1 h1 hw
        · rw [aE] at h1
          rw [if_neg (by rw [hw]; exact fun h=>by cases h)]
          have hnal:∀ e,o.op≠.alloc e:=fun e he=>by
            have:=hg i o e ho he
            rw [hgd] at this
            cases this
          refine goon _ E _ w h1 ?_ (ht1.put (pE _))
          rw [jo hnal]
          exact hM1.congr ck cm cu
theorem zx {pl:bA} {o:Oper} (h:qi o=true):eG pl o=0∧o.guard=none∧(∀ t len parts,o.op≠.buildSlice t len parts)∧∀ e,o.op≠.alloc e:=by
  unfold qi at h
  split at h
  · cases h
  · rename_i hg
    split at h
    all_goals first
      | (rename_i ho; refine ⟨?_,hg,fun _ _ _ he=>(by rw [ho] at he; cases he),fun _ he=>(by rw [ho] at he; cases he)⟩; unfold eG eT; rw [ho]; dsimp only; unfold u4; rw [ho]; dsimp only; unfold BV; rw [ho])
      | cases h
theorem zy {C:Ctx} {pl:bA} {o:Oper} {vs:List AV} {k:AV→Prop} {E:Env} {a:Act} (hp:qi o=true) (h:pop C pl o vs k) (hv:bU E vs (o.op.operands.toList.map a.eval)):∃ r z,k r∧VR E r z∧∀ w,(execOp a.eval o).run C.P w=.ok (.value z) w:=by
  unfold qi at hp
  split at hp
  · cases hp
  · split at hp
    · rename_i x ho
      rw [ho] at hv
      unfold pop at h
      rw [ho] at h
      split at h <;> rename_i he <;> first | (cases he; done) | skip
      all_goals first
        | (cases he
           obtain ⟨u,us,e,hc,hn⟩:=hv.uncons
           simp [Op.operands] at e
           exact ⟨_,_,h,hc,fun w=>by simp [execOp,ho,e.1]⟩)
        | exact h.elim
    · rename_i x ho
      rw [ho] at hv
      unfold pop at h
      rw [ho] at h
      split at h <;> rename_i he <;> first | (cases he; done) | skip
      all_goals first
        | (cases he
           obtain ⟨u,us,e,hc,hn⟩:=hv.uncons
           simp [Op.operands] at e
           exact ⟨_,_,h,hc,fun w=>by simp [execOp,ho,e.1]⟩)
        | exact h.elim
    · rename_i x ho
      rw [ho] at hv
      unfold pop at h
      rw [ho] at h
      split at h <;> rename_i he <;> first | (cases he; done) | skip
      all_goals first
        | (cases he
           obtain ⟨u,us,e,hc,hn⟩:=hv.uncons
           simp [Op.operands] at e
           have hc0:=hc
           cases hc with
           | ptr _ _ hs0 hm=>exact ⟨_,_,h,hc0,fun w=>by simp [execOp,ho,e.1]⟩)
        | (cases he
           obtain ⟨u,us,e,hc,hn⟩:=hv.uncons
           simp [Op.operands] at e
           have hc0:=hc
           cases hc with
           | fptr _ us h1 h2 h3 h4=>exact ⟨_,_,h,hc0,fun w=>by simp [execOp,ho,e.1]⟩)
        | (cases he
           obtain ⟨u,us,e,hc,hn⟩:=hv.uncons
           simp [Op.operands] at e
           have hc0:=hc
           cases hc with
           | fn us ws h1 h2 h3 h4=>exact ⟨_,_,h,hc0,fun w=>by simp [execOp,ho,e.1]⟩)
        | exact h.elim
    · rename_i t x f ho
      rw [ho] at hv
      unfold pop at h
      rw [ho] at h
      split at h <;> rename_i he <;> first | (cases he; done) | skip
      all_goals first
        | (cases he
           obtain ⟨u,us,e,hc,hn⟩:=hv.uncons
           simp [Op.operands] at e
           obtain ⟨r,z,hk,hr,hrun⟩:=lz h hc
           exact ⟨r,z,hk,hr,fun w=>by simp [execOp,ho,e.1,hrun w]⟩)
        | exact h.elim
    · cases hp
theorem nq {aj:Array Oper} {listed:Array Bool}:∀ {is:List Nat} {i:Nat},l6 aj listed is=some i→i∈is∧∃ o,aj[i]?=some o∧qi o=true∧Region.free .any aj listed i=true
  | [],_,h=>by cases h
  | j::js,i,h=>by
    unfold l6 at h
    split at h
    · rename_i hb
      cases h
      rw [Bool.and_eq_true] at hb
      obtain ⟨h1,h2⟩:=hb
      split at h1
      · rename_i o ho
        exact ⟨List.mem_cons_self,o,ho,h1,h2⟩
      · cases h1
    · obtain ⟨h1,h2⟩:=nq h
      exact ⟨List.mem_cons_of_mem _ h1,h2⟩
theorem tp {C:Ctx} (hD:fk C) (hC:dK C) {pl:bA} {aj:Array Oper} {G:Gh} {A:Nat→Prop} {Q:St→Prop} {Qc:Exit→Act→World→Prop} (hs:Region.noSelect aj=true) (hap:wO aj) (hg:∀ (i:Nat) (o:Oper) (e:TypeId),aj[i]?=some o→o.op=.alloc e→o.guard=none)
    (hQ:∀ p S' E' a' w',(∀ d,p d≠none→A d)→Q S'→ai G p E' S' w'→TR E' S'.t a'→Q0 Qc .normal a' w') :
    ∀ (fuel:Nat) (listed:Array Bool) (p:Nat→Option (List AV)) (S:St) (E:Env) (a:Act) (w:World),(∀ d,p d≠none→A d)→ai G p E S w→TR E S.t a→Inv C.P p aj listed→Closed aj listed→ry C pl aj (bM aj.toList []) fuel listed S Q→wpAny C.P .any aj (Q0 Qc) fuel listed a w
  | 0,listed,p,S,E,a,w,hA,hM,ht,hI,hcl,h=>ll hC hap hg hQ 0 listed p S E a w hA hM ht hI (pK hD 0 listed S hcl h)
  | fuel + 1,listed,p,S,E,a,w,hA,hM,ht,hI,hcl,h=>by
    unfold ry at h
    split at h
    · rename_i i hi
      obtain ⟨hm,o,ho,hp,hf⟩:=nq hi
      obtain ⟨hc0,hgd,_,hnal⟩:=zx (pl:=pl) hp
      unfold u5 at h
      rw [ho] at h
      dsimp only at h
      unfold ag at h
      rw [hgd] at h
      obtain ⟨_,h⟩:=ad h
      unfold uj at h
      rw [hc0] at h
      obtain ⟨vs,h,hv⟩:=cG ht h
      obtain ⟨r,z,hk,hr,hrun⟩:=zy hp h hv
      rw [aE] at hk
      refine wpAny_take ho hs hf (by simpa using hm) (fun c a w hq=>absurd hq.1 (fun h=>by cases h)) (v:=z) (.inl ⟨by unfold Region.wanted; rw [hgd],hrun⟩) ?_
      have hI':=hI.step hap ho
      rw [jo hnal] at hI'
      exact tp hD hC hs hap hg hQ fuel _ p _ E _ w hA (hM.congr ck cm cu) (ht.put hr) hI' (hcl.set hm) hk
    · exact ll hC hap hg hQ (fuel + 1) listed p S E a w hA hM ht hI (pK hD (fuel + 1) listed S hcl h)
theorem tq {o:Oper} {e:TypeId} {d:Nat} (h1:o.op=.alloc e) (h2:o.dst=some d):∀ {os:List Oper},o∈os→(d,e)∈ca os:=by
  intro os
  induction os with
  | nil=>intro h; cases h
  | cons x xs ih =>
    intro h
    rcases List.mem_cons.1 h with rfl | h
    · unfold ca
      rw [h1,h2]
      exact List.mem_cons_self
    · have:=ih h
      unfold ca
      split
      · exact List.mem_cons_of_mem _ this
      · exact this
theorem yi {d:Nat}:∀ {xs:List Nat},d∈xs→dV xs d=true:=by
  intro xs
  induction xs with
  | nil=>intro h; cases h
  | cons x xs ih =>
    intro h
    rcases List.mem_cons.1 h with rfl | h
    · simp [dV]
    · simp [dV,ih h]
theorem yj {pl:bA} {x:Oper} {xs:List Oper} (hB:iR pl (ca (x::xs))=true):iR pl (ca xs)=true:=by
  unfold ca at hB
  split at hB
  · unfold iR at hB
    simp only [Bool.and_eq_true] at hB
    exact hB.2
  · exact hB
theorem pM {pl:bA} {o o':Oper} {e e':TypeId} {d:Nat} (h3:o.op=.alloc e) (h4:o'.op=.alloc e') (h5:o.dst=some d) (h6:o'.dst=some d):∀ (os:List Oper),iR pl (ca os)=true→∀ (i i':Nat),i<i'→os[i]?=some o→os[i']?=some o'→False:=by
  intro os
  induction os with
  | nil=>intro _ i i' _ h1; simp at h1
  | cons x xs ih =>
    intro hB i i' hlt h1 h2
    cases i' with
    | zero=>omega
    | succ i' =>
      rw [List.getElem?_cons_succ] at h2
      cases i with
      | zero =>
        rw [List.getElem?_cons_zero] at h1
        cases h1
        have hm:=tq h4 h6 (List.mem_of_getElem? h2)
        unfold ca at hB
        rw [h3,h5] at hB
        unfold iR at hB
        simp only [Bool.and_eq_true,Bool.not_eq_true'] at hB
        have:=yi (d:=d) (xs:=(ca xs).map (·.1)) (List.mem_map.2 ⟨_,hm,rfl⟩)
        rw [hB.1.2] at this
        cases this
      | succ i =>
        rw [List.getElem?_cons_succ] at h1
        exact ih (yj hB) i i' (by omega) h1 h2
theorem yk {o:Oper} {e:TypeId} (ho:o.op=.alloc e):∀ {os:List Oper},rM os=true→o∈os→o.guard=none:=by
  intro os
  induction os with
  | nil=>intro _ h; cases h
  | cons x xs ih =>
    intro h hm
    unfold rM at h
    simp only [Bool.and_eq_true] at h
    rcases List.mem_cons.1 hm with rfl | hm
    · have h1:=h.1
      cases hg:o.guard with
      | none=>rfl
      | some g=>rw [ho,hg] at h1; cases h1
    · exact ih h.2 hm
section
variable {G:Gh} {w:World} {a:Act} {P:Program}
theorem rf:∀ {ds:List Nat} {E:Env} {S:St} {K:St→Prop},ai G pn E S w→TR E S.t a→kR ds S K→∃ S' E',K S'∧ai G pn E' S' w∧TR E' S'.t a∧∀ d,(E.mu (.L d)=none∨d∈ds)→E'.mu (.L d)=none
  | [],E,S,K,hM,ht,h=>⟨S,E,h,hM,ht,fun d hd=>by rcases hd with hd | hd; exact hd; cases hd⟩
  | d::ds,E,S,K,hM,ht,h=>by
    unfold kR at h
    rw [ve] at h
    obtain ⟨E1,h1,h2,h3,_,_,_,_,h4,_,_⟩:=nO hM ht d rfl
    obtain ⟨S',E',h5,h6,h7,h8⟩:=rf h1 h2 h
    refine ⟨S',E',h5,h6,h7,fun e he=>h8 e ?_⟩
    by_cases hed:e=d
    · subst hed; exact .inl h3
    · rcases he with he | he
      · exact .inl ((h4 e hed).trans he)
      · rcases List.mem_cons.1 he with he | he
        · exact absurd he hed
        · exact .inr he
theorem vG {pl:bA} {E:Env}:∀ {xs:List (Nat×TypeId)} {S:St} {p:Nat→Option (List AV)} {K:St→Prop},ai G p E S w→(∀ d∈xs.map (·.1),E.mu (.L d)=none)→iR pl xs=true→wb P xs S K →
    ∃ S' p',K S'∧ai G p' E S' w∧S'.t=S.t∧(∀ d e,(d,e)∈xs→∃ cs,p' d=some cs∧0<cs.length∧ZR P e cs)∧∀ d,d ∉ xs.map (·.1)→p' d=p d
  | [],S,p,K,hM,_,_,h=>⟨S,p,h,hM,rfl,fun _ _ h=>(by cases h),fun _ _=>rfl⟩
  | (d,e)::xs,S,p,K,hM,hmu,hB,h=>by
    unfold wb at h
    obtain ⟨cs,hz,h,hinv⟩:=tn h
    replace h:=ad h; obtain ⟨hpos,h⟩:=h
    have hpos':0<cs.length:=Nat.le_of_ble_eq_true hpos
    have hd0:=hmu d (by simp)
    unfold iR at hB
    simp only [Bool.and_eq_true,Bool.not_eq_true'] at hB
    have hnd:d ∉ xs.map (·.1):=fun hm=>by
      have:=yi hm
      rw [hB.1.2] at this
      cases this
    have hM1:ai G (fun x=>if x=d then some cs else p x) E { t:=S.t,l:=(d,cs)::S.l,o:=S.o,b:=S.b } w :=
      ⟨hM.hp,hM.os,hM.tape,hM.output,hM.size,hM.keep,hM.F0,hM.Flt,hM.Fnew,hM.own,hM.inj,fun x=>by
        show fH _ E (if d=x then some cs else aJ S.l x) x
        by_cases hx:d=x
        · subst hx
          rw [if_pos rfl]
          exact .inr ⟨hd0,by simp,hinv⟩
        · rw [if_neg hx]
          exact (hM.loc x).congr (if_neg fun h=>hx h.symm),hM.obj,hM.old,hM.bl,hM.szs,fun x row hx=>by
        show E.mu (.L x)=none∧(if d=x then some cs else aJ S.l x)=some row
        by_cases hxd:x=d
        · subst hxd
          rw [if_pos rfl] at hx ⊢
          exact ⟨hd0,hx⟩
        · rw [if_neg hxd] at hx
          rw [if_neg (fun h=>hxd h.symm)]
          exact hM.pk x row hx,hM.ow⟩
    obtain ⟨S',p',h1,h2,h3,h4,h5⟩:=vG (xs:=xs) hM1 (fun x hx=>hmu x (by simp only [List.map_cons]; exact List.mem_cons_of_mem _ hx)) hB.2 h
    refine ⟨S',p',h1,h2,h3,fun x y hxy=>?_,fun x hx=>?_⟩
    · rcases List.mem_cons.1 hxy with hxy | hxy
      · cases hxy
        refine ⟨cs,?_,hpos',hz⟩
        rw [h5 d hnd]
        simp
      · exact h4 x y hxy
    · have hx':x≠d∧x ∉ xs.map (·.1):=⟨fun he=>hx (by rw [he]; simp),fun hm=>hx (by simp only [List.map_cons]; exact List.mem_cons_of_mem _ hm)⟩
      rw [h5 x hx'.2]
      simp [hx'.1]
theorem vH:∀ {xs:List (Nat×TypeId)} {S:St} {X:Prop},jb xs S X→∀ d∈xs.map (·.1),∃ i j,S.t[d]?=some (.ptr (.L d) i j)
  | [],_,_,_,d,hd=>by cases hd
  | (d0,e)::xs,S,X,h,d,hd=>by
    unfold jb at h
    obtain ⟨c,hc,h⟩:=bW.1 h
    split at h
    · rename_i d' i j
      obtain ⟨hb,h⟩:=ad h
      simp only [List.map_cons] at hd
      rcases List.mem_cons.1 hd with rfl | hd
      · have:=Nat.eq_of_beq_eq_true hb
        subst this
        exact ⟨i,j,hc⟩
      · exact vH h d hd
    · exact False.elim h
end
theorem z9 {C:Ctx} (hmix:C.P.follows .mixedOrders=true) (hD:fk C) (hC:dK C):jZ C:=by
  intro pl id aj S K h r G E a w Q hM ht hQ
  have h':bw (qT pl aj) (uu C.P (ca aj.toList) S fun S1=>ut C pl aj S1 fun S'=>jb (ca aj.toList) S' (iL pl id S' fun S''=>K .nrm S'')):=h
  obtain ⟨hB,h1⟩:=ad h'
  unfold qT at hB
  simp only [Bool.and_eq_true] at hB
  obtain ⟨hal,hgd⟩:=hB
  unfold uu at h1
  obtain ⟨S1,E1,h2,hM1,ht1,hmu⟩:=rf hM ht h1
  obtain ⟨S2,p2,h3,hM2,ht2,hrow,hout⟩:=vG hM1 (fun d hd=>hmu d (.inr hd)) hal h2
  refine wpIn_region_any hmix ?_
  obtain ⟨hnd,h3⟩:=ad h3
  obtain ⟨hns,hnd⟩:=Ck hnd
  have hcl:Closed aj (Array.replicate aj.size false):=fun j hj=>by
    simp only [Array.getD_eq_getD_getElem?,Array.getElem?_replicate] at hj
    split at hj <;> simp at hj
  refine pL hnd _ _ _ _ ?_
  have h4:ry C pl aj (bM aj.toList []) aj.size (Array.replicate aj.size false) S2 (fun S'=>jb (ca aj.toList) S' (iL pl id S' fun S''=>K .nrm S''))∨ye C pl aj (fun S'=>jb (ca aj.toList) S' (iL pl id S' fun S''=>K .nrm S'')) aj.size (Array.replicate aj.size false) S2:=by
    split at h3
    · exact .inr (pK hD _ _ _ hcl h3)
    · exact .inl h3
  have hap1:wO aj:=by
    intro i i' o o' e e' d h1 h2 h3 h4 h5 h6
    rcases Nat.lt_trichotomy i i' with hlt | heq | hlt
    · exact (pM h3 h4 h5 h6 _ hal i i' hlt (by rw [Array.getElem?_toList]; exact h1) (by rw [Array.getElem?_toList]; exact h2)).elim
    · exact heq
    · exact (pM h4 h3 h6 h5 _ hal i' i hlt (by rw [Array.getElem?_toList]; exact h2) (by rw [Array.getElem?_toList]; exact h1)).elim
  have hg1:∀ (i:Nat) (o:Oper) (e:TypeId),aj[i]?=some o→o.op=.alloc e→o.guard=none:=fun i o e h1 h2=>yk h2 hgd (List.mem_of_getElem? (by rw [Array.getElem?_toList]; exact h1))
  have hQ1:∀ p S' E' a' w',(∀ d,p d≠none→d∈(ca aj.toList).map (·.1))→jb (ca aj.toList) S' (iL pl id S' fun S''=>K .nrm S'')→ai G p E' S' w'→TR E' S'.t a'→Q0 Q .normal a' w':=by
    intro p S' E' a' w' hp hk hS htr
    refine ⟨rfl,?_⟩
    have hps:=vH hk
    have hpn:p=pn:=by
      funext d
      cases hd:p d with
      | none=>rfl
      | some row =>
        exfalso
        obtain ⟨i,j,hij⟩:=hps d (hp d (by rw [hd]; exact fun h=>by cases h))
        have hlt:d<a'.tmps.size:=by rw [← htr.len]; exact (List.getElem?_eq_some_iff.1 hij).1
        have hv:=htr.val d _ _ hij (Array.getElem?_eq_getElem hlt)
        have hne:∃ y,E'.mu (.L d)=some y:=by
          generalize a'.tmps[d]=u at hv
          cases hv with
          | ptr _ _ hs0 hm=>exact ⟨_,hm⟩
        obtain ⟨y,hy⟩:=hne
        have:=(hS.pk d row hd).1
        rw [hy] at this
        cases this
    subst hpn
    obtain ⟨S2,E2,h2,hS2,ht2⟩:=jL hS htr (kE hk).1
    exact hQ .nrm _ E2 _ _ h2 hS2 ht2
  have hA1:∀ d,p2 d≠none→d∈(ca aj.toList).map (·.1):=by
    intro d hd
    cases Classical.em (d∈(ca aj.toList).map (·.1)) with
    | inl h=>exact h
    | inr h=>exact (hd ((hout d h).trans rfl)).elim
  have hI1:Inv C.P p2 aj (Array.replicate aj.size false):=by
    intro i o e d h1 h2 h3 _
    exact hrow d e (tq h2 h3 (List.mem_of_getElem? (by rw [Array.getElem?_toList]; exact h1)))
  rcases h4 with h4 | h4
  · exact tp hD hC hns hap1 hg1 hQ1 aj.size _ p2 S2 E1 a _ hA1 hM2.drawn (by rw [ht2]; exact ht1) hI1 hcl h4
  · exact ll hC hap1 hg1 hQ1 aj.size _ p2 S2 E1 a _ hA1 hM2.drawn (by rw [ht2]; exact ht1) hI1 h4
theorem zA {cfg:m4} (hX:FF cfg) (hN:jN cfg.P) (hmix:cfg.P.follows .mixedOrders=true) (n:Nat):dK (ff cfg n)∧k_ (ff cfg n)∧jZ (ff cfg n) :=
  Du hX.pure hX.sound hN (td hX) (fun n h=>z9 (by rw [lc]; exact hmix) (kF hX n) h) n
open Go.RowKit Go.WideShapes Go.ChangeShapes
section
variable {H:Type} {enc:TypeId×Value→H} {P:Program}
theorem uM {f:Func} {s:ChangeSpec} {apart fresh handsOn again:Bool} {W W':World} {args:Array Value} {v:Value} {ds gs:List (DataW H)} {before pa pv:List MemPlace}
    (hW:DataW.Whole enc P f.params.toList s.vars apart W args.toList ds gs before)
    (hres:∀ (b:Nat) (sp:Nat→Bool) (hd:Bool),DataW.TrodAll enc P W' b sp hd f.resultTypes.toList (v.resultList f.resultTypes.size) (s.fn H (ds++gs)).results [])
    (hargs:∀ sp:Nat→Bool,(∀ p∈before,sp p.block=true)→DataW.TrodAll enc P W' 0 sp true f.params.toList args.toList (s.fn H (ds++gs)).args pa)
    (hvars:∀ sp:Nat→Bool,(∀ p∈before,sp p.block=true)→DataW.TrodVars enc P W' sp s.vars (s.fn H (ds++gs)).vars pv)
    (hps:before=pa++pv) (hb:Below W.heap.size W W')
    (hok:∀ (j:Nat) (t:TypeId) (r:Value),f.resultTypes[j]?=some t→(v.resultList f.resultTypes.size)[j]?=some r→Value.okWide P W' .any 0 t r) :
    s.post enc P f apart fresh handsOn again W args v W':=by
  have hlt:∀ p∈before,p.block<W.heap.size:=fun p hp=>hW.lt p hp
  have hold:∀ p∈before,(fun b=>decide (b<W.heap.size)) p.block=true:=fun p hp=>by simpa using hlt p hp
  refine ⟨ds,gs,before,[],pa,pv,hW,hres _ _ _,hargs _ hold,hvars _ hold,World.keptBut_mono (fun p hp=>⟨hp,?_⟩) (hb.frame (·∈before)),fun _=>?_⟩
  · rw [hps,List.mem_append] at hp
    exact Or.inr hp
  · obtain ⟨_,_,_,_,_,hz,hn⟩:=hW
    refine ⟨hok,_,_,([]++pa)++pv,⟨[]++pa,pv,trodAll_append (hargs _ (fun _ _=>rfl)) (hres _ _ _),hvars _ (fun _ _=>rfl),rfl,?_,?_⟩,?_⟩
    · intro b off hp
      have hin:MemPlace.cell b off∈before:=by rw [hps]; simpa using hp
      rw [hb.frozen (hlt _ hin)]
      exact hz b off hin
    · intro ha
      have:=hn ha
      rw [hps] at this
      simpa using this
    · intro p hp _
      rw [hps]
      simpa using hp
end
def Ea (cfg:m4) (n f:Nat) (args:List AV) (r:AV):Prop:=pg (ff cfg n) f args fun x=>x=r
theorem yl {P : Program} (h : (P.funcs.all fun fn => !(fn.name == "runtime.NumGoroutine")) = true) : jN P := by
  intro f fn hf
  have hlt:f<P.funcs.size:=(Array.getElem?_eq_some_iff.1 hf).1
  have:=Array.all_eq_true.1 h f hlt
  rw [Array.getElem?_eq_getElem hlt] at hf
  cases hf
  simpa using this
def gQ (P:Program) (_pl:bA) (c:Code) (S:St) (K:Ex→St→Prop):Prop :=
  ∃ n e S',(∀ (r:Option Nat) (G:Gh) (E:Env) (a:Act) (w:World) (Q:Exit→Act→World→Prop),ai G pn E S w→TR E S.t a→B8 G (fun e' S''=>e'=e∧S''=S') Q→Code.roundsIn (rd r) 0 P c Q n a w)∧K e S'
def SD (P:Program) (f:Nat) (args:List AV) (o:List Ob) (K:AV→List Ob→Prop):Prop :=
  ∃ r o',ni P f args o (fun r' o''=>r'=r∧o''=o')∧K r o'
def gK (cfg:m4):Ctx:={ P:=cfg.P,pure:=cfg.pure,pol:=cfg.pol,pcall:=di cfg.P,scall:=SD cfg.P,loop:=gQ cfg.P }
theorem ni.mono {P:Program} {f:Nat} {args:List AV} {o:List Ob} {K K':AV→List Ob→Prop} (h:ni P f args o K) (hk:∀ r o',K r o'→K' r o'):ni P f args o K' :=
  ⟨h.1,fun E w us hM hg hv=>(h.2 E w us hM hg hv).mono fun _ _ ⟨v,r,o',E',h1,h2,h3,h4⟩=>⟨v,r,o',E',hk _ _ h1,h2,h3,h4⟩⟩
theorem SD.out {P:Program} {f:Nat} {args:List AV} {o:List Ob} {K:AV→List Ob→Prop} (h:SD P f args o K):ni P f args o K:=by
  obtain ⟨r,o',h1,h2⟩:=h
  exact h1.mono fun _ _ ⟨e1,e2⟩=>by rw [e1,e2]; exact h2
theorem i4 (cfg:m4):dK (gK cfg):=⟨fun _ _ _ h=>h,fun _ _ _ _ h=>h.out⟩
theorem mw (cfg:m4):fk (gK cfg) :=
  ⟨fun _ _ _ ⟨r,h1,h2⟩=>⟨r,h2,fun _ h=>⟨r,h1,h⟩⟩,fun _ _ _ _ ⟨r,o',h1,h2⟩=>⟨r,o',h2,fun _ h=>⟨r,o',h1,h⟩⟩,fun _ _ _ _ ⟨n,e,S',h1,h2⟩=>⟨e,S',h2,fun _ h=>⟨n,e,S',h1,h⟩⟩⟩
theorem i5 (cfg:m4):k_ (gK cfg):=by
  rintro pl c S K ⟨n,e,S',h1,h2⟩ r G E a w Q hM ht hQ
  exact wpIn_loop_rounds n (h1 r G E a w Q hM ht fun e' S'' E' a' w' ⟨e1,e2⟩ hS htr=>by subst e1 e2; exact hQ _ _ _ _ _ h2 hS htr)
theorem kG {cfg:m4} (hmix:cfg.P.follows .mixedOrders=true):jZ (gK cfg):=z9 hmix (mw cfg) (i4 cfg)
theorem gQ.step {cfg:m4} (hmix:cfg.P.follows .mixedOrders=true) {pl:bA} {c:Code} {S:St} {K:Ex→St→Prop}
    (h:fG (gK cfg) pl c S fun e S'=>match e with
      | .nrm=>gQ cfg.P pl c S' K
      | .ex i=>K (.ex i) S'
      | .ret=>K .ret S'):gQ cfg.P pl c S K:=by
  obtain ⟨e1,S1,h1,h2⟩:=qB (mw cfg) c _ h
  have run:∀ (e:Ex) (S2:St) (n:Nat),(∀ (r:Option Nat) (G:Gh) (E:Env) (a:Act) (w:World) (Q:Exit→Act→World→Prop),ai G pn E S1 w→TR E S1.t a→B8 G (fun e' S''=>e'=e∧S''=S2) Q→Exit.then (Code.roundsIn (rd r) 0 cfg.P c Q n) Q (Ds e1) a w) →
      ∀ (r:Option Nat) (G:Gh) (E:Env) (a:Act) (w:World) (Q:Exit→Act→World→Prop),ai G pn E S w→TR E S.t a→B8 G (fun e' S''=>e'=e∧S''=S2) Q→Code.roundsIn (rd r) 0 cfg.P c Q (n + 1) a w:=by
    intro e S2 n hn r G E a w Q hM ht hQ
    refine mh (i4 cfg) (i5 cfg) (kG hmix) c (h2 (fun e' S'=>e'=e1∧S'=S1) ⟨rfl,rfl⟩) r G E a w _ hM ht (fun e' S' E' a' w' hk hS htr=>?_)
    obtain ⟨rfl,rfl⟩:=hk
    exact hn r G E' a' w' Q hS htr hQ
  cases e1 with
  | nrm =>
    obtain ⟨n,e,S',hl,hk⟩:=h1
    exact ⟨n + 1,e,S',run e S' n (fun r G E a w Q hM ht hQ=>hl r G E a w Q hM ht hQ),hk⟩
  | ex i=>exact ⟨1,.ex i,S1,run _ _ 0 (fun r G E a w Q hM ht hQ=>hQ _ _ _ _ _ ⟨rfl,rfl⟩ hM ht),h1⟩
  | ret=>exact ⟨1,.ret,S1,run _ _ 0 (fun r G E a w Q hM ht hQ=>hQ _ _ _ _ _ ⟨rfl,rfl⟩ hM ht),h1⟩
theorem di.mono {P:Program} {f:Nat} {args:List AV} {K K':AV→Prop} (h:di P f args K) (hk:∀ r,K r→K' r):di P f args K' :=
  let ⟨r,h1,h2⟩:=h
  ⟨r,h1,hk _ h2⟩
theorem gQ.mono {P:Program} {pl:bA} {c:Code} {S:St} {K K':Ex→St→Prop} (h:gQ P pl c S K) (hk:∀ e S',K e S'→K' e S'):gQ P pl c S K' :=
  let ⟨n,e,S',h1,h2⟩:=h
  ⟨n,e,S',h1,hk _ _ h2⟩
theorem SD.mono {P:Program} {f:Nat} {args:List AV} {o:List Ob} {K K':AV→List Ob→Prop} (h:SD P f args o K) (hk:∀ r o',K r o'→K' r o'):SD P f args o K' :=
  let ⟨r,o',h1,h2⟩:=h
  ⟨r,o',h1,hk _ _ h2⟩
theorem di.of {cfg:m4} (hN:jN cfg.P) (hmix:cfg.P.follows .mixedOrders=true) {f:Nat} {args:List AV} {K:AV→Prop} (h:pg (gK cfg) f args K):di cfg.P f args K :=
  mi (i4 cfg) (i5 cfg) (kG hmix) hN (fun f args K h=>by
    obtain ⟨r,h1,h2⟩:=qC (mw cfg) K h
    exact ⟨r,h1,h2 _ rfl⟩) h
theorem SD.of {cfg:m4} (hN:jN cfg.P) (hmix:cfg.P.follows .mixedOrders=true) {f:Nat} {args:List AV} {o:List Ob} {K:AV→List Ob→Prop} (h:qj (gK cfg) f args o K):SD cfg.P f args o K:=by
  obtain ⟨r,o',h1,h2⟩:=tc (mw cfg) K h
  exact ⟨r,o',pF (i4 cfg) (i5 cfg) (kG hmix) hN (h2 _ ⟨rfl,rfl⟩),h1⟩
theorem di.ofN {cfg:m4} (hX:FF cfg) (hN:jN cfg.P) (hmix:cfg.P.follows .mixedOrders=true) {n f:Nat} {args:List AV} {r:AV} (h:Ea cfg n f args r):di cfg.P f args fun x=>x=r:=by
  obtain ⟨h1,h2,h3⟩:=zA hX hN hmix n
  have hP:=lc cfg n
  have:=mi h1 h2 h3 (by rw [hP]; exact hN) (td hX n) h
  rw [hP] at this
  exact this
theorem di.use {P:Program} {f:Nat} {args:List AV} {r:AV} {K:AV→Prop} (h:di P f args fun x=>x=r) (hk:K r):di P f args K:=h.mono fun _ e=>by rw [e]; exact hk
theorem zB {P:Program} {f:Nat} {args:List AV} (h:di P f args fun x=>x=.v (.bool true)) (F:Nat→Prop) (w:World) (us:Array Value) (hF:∀ b,F b→b<w.heap.size) (hg:yM ⟨F,fun _=>none,w.heap⟩) (hv:bU ⟨F,fun _=>none,w.heap⟩ args us.toList) :
    Calls P f us w fun e w'=>e=.returned (.bool true)∧Go.RowKit.Below w.heap.size w w':=by
  obtain ⟨r,⟨_,h4⟩,rfl⟩:=h
  refine (h4 F w us hF hg hv).mono ?_
  rintro e w' ⟨v,F',rfl,hv,hb,_⟩
  exact ⟨by rw [hv.vI.1],hb⟩
open Go.ChangeShapes Go.WideShapes
def wP (P:Program):List Field→Nat→Bool
  | [],_=>true
  | f::fs,k=>Nat.beq f.offset k&&wP P fs (k + P.cellsOf f.type)
def rh (P:Program):Nat→TypeId→Bool
  | 0,_=>false
  | n + 1,t =>
    match P.underlying t with
    | some .bool | some (.int _) | some .string=>true
    | some (.slice e)=>Nat.blt 0 (P.cellsOf e)&&rh P n e
    | some (.struct fs)=>wP P fs.toList 0&&Nat.beq (fs.toList.foldl (fun s f=>s + P.cellsOf f.type) 0) (P.cellsOf t)&&fs.toList.all fun f=>rh P n f.type
    | _=>false
def cV {H:Type} (P:Program):Nat→TypeId→DataW H→Bool
  | 0,_,_=>false
  | n + 1,t,d =>
    match P.underlying t,d with
    | some .bool,.lit (.bool _)=>true
    | some (.int k),.lit (.int k' m)=>decide (k'=k)&&(Lit.int k m).wf
    | some .string,.lit (.string bs)=>decide (bs.length≤maxLen)
    | some (.slice _),.nil=>true
    | some (.slice e),.slice xs _=>decide (xs.length≤maxLen)&&xs.all (cV P n e)
    | some (.struct fs),.agg ds=>Nat.beq ds.length fs.size&&(fs.toList.zip ds).all fun x=>cV P n x.1.type x.2
    | _,_=>false
def fU {H:Type} (P:Program):Nat→TypeId→DataW H→List AV
  | 0,_,_=>[]
  | n + 1,t,d =>
    match P.underlying t,d with
    | some .bool,.lit (.bool b)=>[.v (.bool b)]
    | some (.int k),.lit (.int _ m)=>[.v (.int k m)]
    | some .string,.lit (.string bs)=>[.v (.string ⟨bs.toArray⟩)]
    | some (.slice _),.nil=>[.nilsl]
    | some (.slice e),.slice xs _=>[.sl (xs.map (fU P n e))]
    | some (.struct fs),.agg ds=>(fs.toList.zip ds).flatMap fun x=>fU P n x.1.type x.2
    | _,_=>[]
def pN (w:World):Env:=⟨fun b=>b<w.heap.size,fun _=>none,w.heap⟩
theorem tr {α β:Type} {f:α→Option β}:∀ {xs:List α} {ys:List β},xs.mapM f=some ys→xs.length=ys.length∧∀ (i:Nat) (x:α),xs[i]?=some x→∃ y,ys[i]?=some y∧f x=some y
  | [],ys,h=>by
    simp at h
    subst h
    exact ⟨rfl,fun i x h=>by simp at h⟩
  | x::xs,ys,h=>by
    rw [List.mapM_cons] at h
    simp only [Option.pure_def,Option.bind_eq_bind,Option.bind_eq_some_iff,Option.some.injEq] at h
    obtain ⟨y,hy,ys',hys,rfl⟩:=h
    obtain ⟨h1,h2⟩:=tr hys
    refine ⟨by simp [h1],fun i z hz=>?_⟩
    cases i with
    | zero =>
      simp only [List.getElem?_cons_zero,Option.some.injEq] at hz
      subst hz
      exact ⟨y,rfl,hy⟩
    | succ i=>exact h2 i z (by simpa using hz)
theorem lm {w:World} {a:Addr} {v:Value} (h:w.cell? a=some v):a.spot=none∧a.block<w.heap.size∧cQ w.heap a.block a.off=some v:=by
  unfold World.cell? at h
  split at h
  · rename_i c t fr hb
    split at h
    · cases h
    · rename_i hs
      refine ⟨by simpa using hs,(Array.getElem?_eq_some_iff.1 hb).1,?_⟩
      unfold cQ
      rw [hb]
      exact h
  · cases h
theorem tu (P:Program):∀ (fs:List Field) (k:Nat),fs.foldl (fun s f=>s + P.cellsOf f.type) k=k + fs.foldl (fun s f=>s + P.cellsOf f.type) 0
  | [],k=>by simp
  | f::fs,k=>by
    rw [List.foldl_cons,List.foldl_cons,tu P fs (k + _),tu P fs (0 + _)]
    omega
theorem tv {α:Type} {sz:Nat}:∀ {rows:List (List α)} {m:Nat} {c:α},0<sz→(∀ r∈rows,r.length=sz)→rows.flatten[m]?=some c→∃ r,rows[m / sz]?=some r∧r[m % sz]?=some c
  | [],m,c,_,_,h=>by simp at h
  | r::rs,m,c,hs,hr,h=>by
    have h0:=hr r List.mem_cons_self
    rw [List.flatten_cons] at h
    by_cases hm:m<sz
    · rw [List.getElem?_append_left (by omega)] at h
      refine ⟨r,?_,?_⟩
      · rw [Nat.div_eq_of_lt hm]; rfl
      · rw [Nat.mod_eq_of_lt hm]; exact h
    · rw [List.getElem?_append_right (by omega),h0] at h
      obtain ⟨r',h1,h2⟩:=tv (rows:=rs) hs (fun r h=>hr r (List.mem_cons_of_mem _ h)) h
      have e1:m / sz=(m - sz) / sz + 1:=by
        rw [← Nat.add_div_right _ hs]
        congr 1
        omega
      have e2:m % sz=(m - sz) % sz:=by
        rw [Nat.mod_eq_sub_mod (by omega)]
      rw [e1,e2,List.getElem?_cons_succ]
      exact ⟨r',h1,h2⟩
section
variable {H:Type} {enc:TypeId×Value→H} {P:Program} {w:World} {sp:Nat→Bool}
theorem Dy:(pN w).fz=pN w:=rfl
theorem vJ {n:Nat} {base:Nat} {fuel:Nat} (ih:∀ {fuel:Nat} {t:TypeId} {cs:List Value} {d:DataW H} {ps:List MemPlace},rh P n t=true→cs.length=P.cellsOf t→DataW.trod enc P w base sp true fuel t cs=some (d,ps)→cV P n t d=true∧bU (pN w) (fU P n t d) cs) :
    ∀ (fs:List Field) (k:Nat) (cs:List Value) (xs:List (DataW H×List MemPlace)),wP P fs k=true→k + fs.foldl (fun s f=>s + P.cellsOf f.type) 0=cs.length→(fs.all fun f=>rh P n f.type)=true →
      fs.mapM (fun f=>DataW.trod enc P w base sp true fuel f.type ((cs.drop f.offset).take (P.cellsOf f.type)))=some xs →
      ((fs.zip (xs.map (·.1))).all fun x=>cV P n x.1.type x.2)=true∧bU (pN w) ((fs.zip (xs.map (·.1))).flatMap fun x=>fU P n x.1.type x.2) (cs.drop k)
  | [],k,cs,xs,_,hl,_,h=>by
    simp at h
    subst h
    simp at hl
    refine ⟨rfl,?_⟩
    rw [List.drop_eq_nil_of_le (by omega)]
    exact .nil _
  | f::fs,k,cs,xs,hc,hl,hg,h=>by
    rw [List.mapM_cons] at h
    simp only [Option.pure_def,Option.bind_eq_bind,Option.bind_eq_some_iff,Option.some.injEq] at h
    obtain ⟨y,hy,ys,hys,rfl⟩:=h
    unfold wP at hc
    simp only [Bool.and_eq_true] at hc
    have hoff:=Nat.eq_of_beq_eq_true hc.1
    simp only [List.all_cons,Bool.and_eq_true] at hg
    rw [List.foldl_cons,tu] at hl
    rw [hoff] at hy
    have hlen:((cs.drop k).take (P.cellsOf f.type)).length=P.cellsOf f.type:=by simp; omega
    obtain ⟨h1,h2⟩:=ih (ps:=y.2) hg.1 hlen hy
    obtain ⟨h3,h4⟩:=vJ ih fs (k + P.cellsOf f.type) cs ys hc.2 (by omega) hg.2 hys
    refine ⟨by simp [h1,h3],?_⟩
    show bU _ (fU P n f.type y.1++_) _
    have:=h2.append h4
    rw [← List.drop_drop,List.take_append_drop] at this
    exact this
theorem rS {base:Nat}:∀ (n:Nat) {fuel:Nat} {t:TypeId} {cs:List Value} {d:DataW H} {ps:List MemPlace},rh P n t=true→cs.length=P.cellsOf t→DataW.trod enc P w base sp true fuel t cs=some (d,ps)→cV P n t d=true∧bU (pN w) (fU P n t d) cs
  | 0,_,_,_,_,_,h,_,_=>by cases h
  | n + 1,0,_,_,_,_,_,_,h=>by simp [DataW.trod] at h
  | n + 1,fuel + 1,t,cs,d,ps,hg,hlen,h=>by
    have one:∀ {c:AV} {u:Value},VR (pN w) c u→bU (pN w) [c] [u]:=fun h=>.cons h (.nil _)
    unfold rh at hg
    unfold DataW.trod at h
    split at hg
    · rename_i hu
      rw [hu] at h
      split at h <;> first | (simp_all; done) | skip
      rename_i b _ _
      simp only [Option.some.injEq,Prod.mk.injEq] at h
      obtain ⟨rfl,_⟩:=h
      refine ⟨by unfold cV; rw [hu],?_⟩
      unfold fU
      rw [hu]
      exact one (.v _ _ rfl)
    · rename_i k hu
      rw [hu] at h
      split at h <;> first | (simp_all; done) | skip
      rename_i k' kk m e2
      cases e2
      split at h
      · rename_i hk
        simp only [Option.some.injEq,Prod.mk.injEq] at h
        obtain ⟨rfl,_⟩:=h
        obtain ⟨hkk,hwf⟩:=hk
        subst hkk
        refine ⟨by unfold cV; rw [hu]; simp [hwf],?_⟩
        unfold fU
        rw [hu]
        exact one (.v _ _ rfl)
      · cases h
    · rename_i hu
      rw [hu] at h
      split at h <;> first | (simp_all; done) | skip
      rename_i s e2
      split at h
      · rename_i hs
        simp only [Option.some.injEq,Prod.mk.injEq] at h
        obtain ⟨rfl,_⟩:=h
        refine ⟨by unfold cV; rw [hu]; simpa using hs,?_⟩
        unfold fU
        rw [hu]
        have:(⟨s.data.toList.toArray⟩:ByteArray)=s:=by cases s; simp
        dsimp only
        rw [this]
        exact one (.v _ _ rfl)
      · cases h
    · rename_i e hu
      simp only [Bool.and_eq_true] at hg
      have hsz:0<P.cellsOf e:=Nat.le_of_ble_eq_true hg.1
      rw [hu] at h
      split at h <;> first | (simp_all; done) | skip
      · simp only [Option.some.injEq,Prod.mk.injEq] at h
        obtain ⟨rfl,_⟩:=h
        refine ⟨by unfold cV; rw [hu],?_⟩
        unfold fU
        rw [hu]
        exact one (.nilsl _)
      · rename_i e0 a len cap e2
        cases e2
        dsimp only at h
        split at h
        · rename_i hb
          simp only [Option.bind_eq_some_iff,Option.map_eq_some_iff,Prod.mk.injEq] at h
          obtain ⟨elems,he,rest,_,rfl,_⟩:=h
          obtain ⟨hl1,hget⟩:=tr he
          simp only [List.length_range] at hl1
          have hel:∀ (i:Nat) (y:DataW H×List MemPlace),elems[i]?=some y→∃ cs',(w.cells? base (a.add (i * P.cellsOf e)) (P.cellsOf e))=some cs'∧cV P n e y.1=true∧bU (pN w) (fU P n e y.1) cs':=by
            intro i y hy
            have hi:i<len:=by rw [hl1]; exact (List.getElem?_eq_some_iff.1 hy).1
            obtain ⟨y',hy',hf⟩:=hget i i (by simp [hi])
            rw [hy] at hy'
            cases hy'
            simp only [Option.bind_eq_some_iff] at hf
            obtain ⟨cs',hc,ht⟩:=hf
            have hcl:=(World.cells?_some hc).2.1
            obtain ⟨h1,h2⟩:=rS n (ps:=y.2) hg.2 hcl ht
            exact ⟨cs',hc,h1,h2⟩
          refine ⟨?_,?_⟩
          · unfold cV
            rw [hu]
            simp only [Bool.and_eq_true,decide_eq_true_eq,List.length_map,List.all_eq_true,List.mem_map]
            refine ⟨by omega,?_⟩
            rintro x ⟨y,hy,rfl⟩
            obtain ⟨i,hi,hiy⟩:=List.getElem_of_mem hy
            obtain ⟨cs',_,h1,_⟩:=hel i y (by rw [List.getElem?_eq_getElem hi,hiy])
            exact h1
          · unfold fU
            rw [hu]
            refine one ?_
            cases hlen0:len with
            | zero =>
              have:elems=[]:=List.eq_nil_of_length_eq_zero (by omega)
              rw [this]
              exact .sle _ a cap
            | succ len' =>
              have hrow:∀ (i:Nat) (y:DataW H×List MemPlace),elems[i]?=some y→∃ cs',cs'.length=P.cellsOf e∧bU (pN w) (fU P n e y.1) cs'∧∀ j,j<P.cellsOf e→w.cell? ((a.add (i * P.cellsOf e)).add j)=cs'[j]?:=by
                intro i y hy
                obtain ⟨cs',hc,_,h2⟩:=hel i y hy
                obtain ⟨_,h3,h4⟩:=World.cells?_some hc
                exact ⟨cs',h3,h2,h4⟩
              obtain ⟨y0,hy0⟩:∃ y0,elems[0]?=some y0:=⟨elems[0]'(by omega),List.getElem?_eq_getElem (by omega)⟩
              obtain ⟨c0,hc0,_,hat0⟩:=hrow 0 y0 hy0
              have h00:=hat0 0 hsz
              simp only [Nat.zero_mul,Addr.add,if_pos] at h00
              have hv0:c0[0]?=some (c0[0]'(by omega)):=List.getElem?_eq_getElem (by omega)
              rw [hv0] at h00
              obtain ⟨hspot,hblk,_⟩:=lm h00
              obtain ⟨b,off,spot⟩:=a
              simp only at hspot hblk
              subst hspot
              have hadd:∀ x,(⟨b,off,none⟩:Addr).add x=⟨b,off + x,none⟩:=fun x=>by unfold Addr.add; split <;> simp_all
              have hrl:∀ r∈(elems.map (·.1)).map (fU P n e),r.length=P.cellsOf e:=by
                intro r hr
                simp only [List.map_map,List.mem_map] at hr
                obtain ⟨y,hy,rfl⟩:=hr
                obtain ⟨i,hi,hiy⟩:=List.getElem_of_mem hy
                obtain ⟨cs',h1,h2,_⟩:=hrow i y (by rw [List.getElem?_eq_getElem hi,hiy])
                exact h2.1.trans h1
              have hfl:((elems.map (·.1)).map (fU P n e)).flatten.length=len * P.cellsOf e:=by
                have:∀ (rows:List (List AV)),(∀ r∈rows,r.length=P.cellsOf e)→rows.flatten.length=rows.length * P.cellsOf e:=by
                  intro rows
                  induction rows with
                  | nil=>intro _; simp
                  | cons r rs ih=>intro hr; rw [List.flatten_cons,List.length_append,ih (fun r h=>hr r (List.mem_cons_of_mem _ h)),hr r List.mem_cons_self,List.length_cons,Nat.succ_mul]; omega
                rw [this _ hrl]
                simp [hl1]
              have hcell:∀ m,m<len * P.cellsOf e→∃ u,cQ w.heap b (off + m)=some u:=by
                intro m hm
                have hi:m / P.cellsOf e<len:=(Nat.div_lt_iff_lt_mul hsz).2 hm
                have hj:m % P.cellsOf e<P.cellsOf e:=Nat.mod_lt _ hsz
                obtain ⟨y,hy⟩:∃ y,elems[m / P.cellsOf e]?=some y:=⟨elems[m / P.cellsOf e]'(by omega),List.getElem?_eq_getElem (by omega)⟩
                obtain ⟨cs',h1,h2,h3⟩:=hrow _ y hy
                have h4:=h3 _ hj
                have hv:cs'[m % P.cellsOf e]?=some (cs'[m % P.cellsOf e]'(by omega)):=List.getElem?_eq_getElem (by omega)
                rw [hv,hadd] at h4
                have hadd2:∀ x y,(⟨b,x,none⟩:Addr).add y=⟨b,x + y,none⟩:=fun x y=>by unfold Addr.add; split <;> simp_all
                rw [hadd2] at h4
                obtain ⟨_,_,h5⟩:=lm h4
                have ee:off + m / P.cellsOf e * P.cellsOf e + m % P.cellsOf e=off + m:=by
                  have:=Nat.div_add_mod m (P.cellsOf e)
                  rw [Nat.mul_comm] at this
                  omega
                simp only [ee] at h5
                exact ⟨_,h5⟩
              have hus:=VR.sl (E:=pN w) (rows:=(elems.map (·.1)).map (fU P n e)) (sz:=P.cellsOf e) (b:=b) (o:=off) (cap:=cap)
                ((List.range (len * P.cellsOf e)).map fun m=>(cQ w.heap b (off + m)).getD undef) hsz hrl (by rw [hfl]; simp) (fun m c u h1 h2=>?_) hblk (fun m u hu'=>?_) (by simp; omega)
              · have e1:((elems.map (·.1)).map (fU P n e)).length=len' + 1:=by simp; omega
                rw [e1] at hus
                exact hus
              · rw [Dy]
                obtain ⟨r,h3,h4⟩:=tv hsz hrl h1
                rw [List.getElem?_map,List.getElem?_map,Option.map_eq_some_iff] at h3
                obtain ⟨x,h3,rfl⟩:=h3
                rw [Option.map_eq_some_iff] at h3
                obtain ⟨y,hy,rfl⟩:=h3
                obtain ⟨cs',h5,h6,h7⟩:=hrow _ y hy
                obtain ⟨u',hu1,hu2⟩:=h6.get h4
                have hj:m % P.cellsOf e<P.cellsOf e:=Nat.mod_lt _ hsz
                have h8:=h7 _ hj
                have hadd2:∀ x y,(⟨b,x,none⟩:Addr).add y=⟨b,x + y,none⟩:=fun x y=>by unfold Addr.add; split <;> simp_all
                rw [hu1,hadd,hadd2] at h8
                obtain ⟨_,_,h9⟩:=lm h8
                have ee:off + m / P.cellsOf e * P.cellsOf e + m % P.cellsOf e=off + m:=by
                  have:=Nat.div_add_mod m (P.cellsOf e)
                  rw [Nat.mul_comm] at this
                  omega
                simp only [ee] at h9
                have hm:m<len * P.cellsOf e:=by rw [← hfl]; exact (List.getElem?_eq_some_iff.1 h1).1
                rw [List.getElem?_map,List.getElem?_range hm] at h2
                simp only [Option.map_some,h9,Option.getD_some,Option.some.injEq] at h2
                subst h2
                exact hu2
              · have hm:m<len * P.cellsOf e:=by
                  have:=(List.getElem?_eq_some_iff.1 hu').1
                  simpa using this
                rw [List.getElem?_map,List.getElem?_range hm] at hu'
                obtain ⟨u',h5⟩:=hcell m hm
                simp only [Option.map_some,h5,Option.getD_some,Option.some.injEq] at hu'
                subst hu'
                exact h5
        · cases h
    · rename_i fs hu
      simp only [Bool.and_eq_true] at hg
      rw [hu] at h
      split at h <;> first | (simp_all; done) | skip
      rename_i fs0 e1
      cases e1
      rw [if_pos hlen] at h
      simp only [Option.map_eq_some_iff,Prod.mk.injEq] at h
      obtain ⟨xs,hx,rfl,_⟩:=h
      have hsum:=Nat.eq_of_beq_eq_true hg.1.2
      obtain ⟨h1,h2⟩:=vJ (n:=n) (base:=base) (fuel:=fuel) (fun hg hl ht=>rS n hg hl ht) fs.toList 0 _ xs hg.1.1 (by omega) hg.2 hx
      obtain ⟨hl1,_⟩:=tr hx
      refine ⟨?_,?_⟩
      · unfold cV
        rw [hu]
        simp only [Bool.and_eq_true]
        exact ⟨by simp at hl1; simp [hl1],h1⟩
      · unfold fU
        rw [hu]
        simpa using h2
    · cases hg
end
def nr {H:Type} (P:Program) (n:Nat) (t:TypeId) (d:DataW H):AV :=
  match P.underlying t with
  | some (.struct _)=>.agg (fU P n t d)
  | _=>(fU P n t d).headD .bad
def jp (P:Program) (t:TypeId):Bool :=
  match P.underlying t with
  | some (.struct _)=>true
  | _=>false
def z_ (P:Program) (n:Nat) (t:TypeId):Bool:=rh P n t&&(jp P t||Nat.beq (P.cellsOf t) 1)
section
variable {H:Type} {enc:TypeId×Value→H} {P:Program} {W W':World}
theorem EQ {n:Nat} {t:TypeId} {v:Value} {d:DataW H} {p:List MemPlace} {base:Nat} (hg:z_ P n t=true) (hv:Value.okWide P W .any base t v) (h:DataW.Trod enc P W 0 (fun _=>true) true t v d p) :
    cV P n t d=true∧VR (pN W) (nr P n t d) v:=by
  unfold z_ at hg
  simp only [Bool.and_eq_true,Bool.or_eq_true] at hg
  obtain ⟨fuel,hf⟩:=h
  cases hs:jp P t with
  | true =>
    unfold jp at hs
    split at hs
    · rename_i fs hu
      unfold Value.okWide at hv
      rw [hu] at hv
      obtain ⟨cs,rfl,hsz,_⟩:=hv
      have hc:(Value.agg cs).cells.toList=cs.toList:=rfl
      rw [hc] at hf
      obtain ⟨h1,h2⟩:=rS (base:=0) n (ps:=p) hg.1 (by simpa using hsz) hf
      refine ⟨h1,?_⟩
      unfold nr
      rw [hu]
      exact h2.aggV
    · cases hs
  | false =>
    have hc1:P.cellsOf t=1:=by
      rcases hg.2 with h | h
      · rw [hs] at h; cases h
      · exact Nat.eq_of_beq_eq_true h
    have hone:v.cells.toList=[v]:=by
      have hns:∀ fs,P.underlying t≠some (.struct fs):=fun fs he=>by unfold jp at hs; rw [he] at hs; cases hs
      have hgt:=hg.1
      cases v with
      | agg cs =>
        exfalso
        cases n with
        | zero=>cases hgt
        | succ n =>
          unfold rh at hgt
          unfold Value.okWide at hv
          split at hgt
          · rename_i hu; rw [hu] at hv; simp [Cell.okWide,Cell.ok,hu] at hv
          · rename_i k hu; rw [hu] at hv; simp [Cell.okWide,Cell.ok,hu] at hv
          · rename_i hu; rw [hu] at hv; simp [Cell.okWide,Cell.ok,hu] at hv
          · rename_i e hu; rw [hu] at hv; simp [Cell.okWide,Cell.ok,hu] at hv
          · rename_i fs hu; exact hns fs hu
          · cases hgt
      | _=>rfl
    rw [hone] at hf
    obtain ⟨h1,h2⟩:=rS (base:=0) n (ps:=p) hg.1 (by rw [hc1]; rfl) hf
    refine ⟨h1,?_⟩
    have hav:nr P n t d=(fU P n t d).headD .bad:=by
      unfold nr
      unfold jp at hs
      split at hs
      · cases hs
      · rfl
    rw [hav]
    cases he:fU P n t d with
    | nil=>exact .bad _ _
    | cons c cs =>
      rw [he] at h2
      exact h2.2 0 c v rfl rfl
theorem Aa {n base:Nat}:∀ {ts:List TypeId} {vs:List Value} {ds:List (DataW H)} {p:List MemPlace},(ts.all (z_ P n))=true→(∀ (j:Nat) (t:TypeId) (v:Value),ts[j]?=some t→vs[j]?=some v→Value.okWide P W .any base t v) →
    DataW.TrodAll enc P W 0 (fun _=>true) true ts vs ds p→ds.length=ts.length∧((ts.zip ds).all fun x=>cV P n x.1 x.2)=true∧bU (pN W) ((ts.zip ds).map fun x=>nr P n x.1 x.2) vs
  | [],[],[],_,_,_,_=>⟨rfl,rfl,.nil _⟩
  | t::ts,v::vs,d::ds,_,hg,hv,h=>by
    obtain ⟨p,q,h1,h2,_⟩:=h
    simp only [List.all_cons,Bool.and_eq_true] at hg
    obtain ⟨h3,h4⟩:=EQ hg.1 (hv 0 t v rfl rfl) h1
    obtain ⟨h5,h6,h7⟩:=Aa hg.2 (fun j t v e1 e2=>hv (j + 1) t v (by simpa using e1) (by simpa using e2)) h2
    exact ⟨by simp [h5],by simp [h3,h6],.cons h4 h7⟩
  | [],[],_::_,_,_,_,h=>by cases h
  | [],_::_,_,_,_,_,h=>by cases h
  | _::_,[],_,_,_,_,h=>by cases h
  | _::_,_::_,[],_,_,_,h=>by cases h
theorem vK {sp:Nat→Bool} (hl:laidOutB P=true):∀ {ts:List TypeId} {vs:List Value} {ds:List (DataW H)} {p:List MemPlace},(ts.all fun t=>P.readableRec t&&decide (t<P.types.size))=true →
    DataW.TrodAll enc P W 0 (fun _=>true) true ts vs ds p→Below W.heap.size W W'→(∀ x∈p,x.block<W.heap.size)→(∀ x∈p,sp x.block=true)→DataW.TrodAll enc P W' 0 sp true ts vs ds p
  | [],[],[],_,_,h,_,_,_=>h
  | t::ts,v::vs,d::ds,_,hg,h,hb,hlt,hsp=>by
    obtain ⟨p,q,h1,h2,rfl⟩:=h
    simp only [List.all_cons,Bool.and_eq_true,decide_eq_true_eq] at hg
    refine ⟨p,q,Go.WideElems.Trod_stays hl hg.1.1 hg.1.2 h1 (fun x hx=>hb.same (hlt x (List.mem_append.2 (.inl hx)))) (fun x hx=>hsp x (List.mem_append.2 (.inl hx))),?_,rfl⟩
    exact vK hl hg.2 h2 hb (fun x hx=>hlt x (List.mem_append.2 (.inr hx))) (fun x hx=>hsp x (List.mem_append.2 (.inr hx)))
  | [],[],_::_,_,_,h,_,_,_=>by cases h
  | [],_::_,_,_,_,h,_,_,_=>by cases h
  | _::_,[],_,_,_,h,_,_,_=>by cases h
  | _::_,_::_,[],_,_,h,_,_,_=>by cases h
end
end A
end Go.Proofs.YteafbimadlcljaaDoor
