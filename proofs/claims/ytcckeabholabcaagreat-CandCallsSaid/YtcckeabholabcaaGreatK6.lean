/- Orders that are open; contracts; arguments read as data. Nothing is claimed here of the program. -/
import Derived.Test.YtcckeabholabcaaGreatK5
import Derived.Still
import Derived.WalkKit
import Derived.ProofKit
import Derived.OpenShut
import Derived.LoopNIn
import Derived.DataReads
import Derived.Carry
import Derived.WideKeyArgs
namespace Go.Proofs.YtcckeabholabcaaGreat
namespace A
open Go
theorem m8:∀ {xs:List (Nat×TypeId)} {S:St} {X:Prop},lH xs S X→X∧∀ X',X'→lH xs S X'
  | [],_,_,h=>⟨h,fun _ h=>h⟩
  | (d,e)::xs,S,X,h=>by
    obtain ⟨a,h1,h2⟩:=cI.1 h
    split at h2
    · rename_i d' i j
      obtain ⟨hb,h2⟩:=ab h2
      obtain ⟨h3,h4⟩:=m8 h2
      refine ⟨h3,fun X' h=>cI.2 ⟨_,h1,?_⟩⟩
      exact ar hb (h4 X' h)
    · exact False.elim h2
theorem gp {C:Ctx} (hC:gU C) {pl:cm} {ops:Array Oper} {i:Nat} {S:St}:aC (yF C pl ops i S):=by
  show aC (fun K:St→Prop=>yF C pl ops i S K)
  unfold yF
  split
  · exact aC.failN
  · exact Gc hC
theorem EZ {S2 S1:St} {X:(St→Prop)→Prop} (h:aC X):aC (fun K=>tY S2 S1 (X K)):=by
  unfold tY
  split
  · exact h
  · exact fun K hk=>by
      obtain ⟨r,h1,h2⟩:=h K hk.2
      exact ⟨r,h1,fun K' hk'=>⟨hk.1,h2 K' hk'⟩⟩
theorem BE {go:Nat→(St→Prop)→Prop} (hg:∀ i,aC (go i)):∀ (is:List Nat) (S1:St),aC (fun K:St→Prop=>CK go is S1 (K S1))
  | [],S1=>aC.ret S1
  | i::is,S1=>by
    show aC (fun K:St→Prop=>go i fun S2=>tY S2 S1 (CK go is S1 (K S1)))
    exact aC.bind (hg i) (fun S2=>EZ (BE hg is S1))
theorem f5 {C:Ctx} (hC:gU C) {pl:cm} {ops:Array Oper} {ws:List Nat}:∀ (n:Nat) (listed:Array Bool) (S:St),aC (ku C pl ops ws n listed S)
  | 0,listed,S=>by
    show aC (fun K:St→Prop=>ku C pl ops ws 0 listed S K)
    unfold ku
    split
    · exact aC.ret S
    · exact aC.failN
  | n + 1,listed,S=>by
    show aC (fun K:St→Prop=>ku C pl ops ws (n + 1) listed S K)
    unfold ku
    split
    · exact aC.ret S
    · split
      · exact aC.bind (gp hC) (fun S'=>f5 hC n _ S')
      · refine aC.bind (gp hC) (fun S'=>aC.bind (f5 hC n _ S') (fun S1=>?_))
        exact BE (fun i=>aC.bind (gp hC) (fun S'=>f5 hC n _ S')) _ S1
theorem BF {C:Ctx} (hC:gU C) {pl:cm} {ops:Array Oper} {ws:List Nat}:∀ (n:Nat) (listed:Array Bool) (S:St),aC (uS C pl ops ws n listed S)
  | 0,listed,S=>f5 (pl:=pl) (ws:=ws) hC 0 listed S
  | n + 1,listed,S=>by
    show aC (fun K:St→Prop=>uS C pl ops ws (n + 1) listed S K)
    unfold uS
    split
    · exact aC.bind (gp hC) (fun S'=>BF hC n _ S')
    · exact f5 hC _ _ _
theorem wC {C:Ctx} (hC:gU C) {pl:cm} {ops:Array Oper} {S:St}:aC (xO C pl ops S):=by
  show aC (fun K:St→Prop=>xO C pl ops S K)
  unfold xO
  refine aC.chk ?_
  split
  · exact f5 hC _ _ _
  · exact BF hC _ _ _
theorem tg {C:Ctx} (hC:gU C) {pl:cm}:∀ (c:Code) {S:St},aw (il C pl c S):=by
  intro c
  induction c with
  | skip=>exact aw.ret Ex.nrm _
  | region id ops draw =>
    intro S
    cases draw with
    | false =>
      show aw (fun (K:Ex→St→Prop)=>sS C pl ops ops.toList S fun S'=>kQ pl id S' fun S''=>K .nrm S'')
      exact aC.bind2 (lT hC _ _) (fun S'=>aC.bind2 pV (fun S''=>aw.ret Ex.nrm S''))
    | true =>
      show aw (fun (K:Ex→St→Prop)=>ca (t_ pl ops) (xP C.P (cO ops.toList) S fun S1=>xO C pl ops S1 fun S'=>lH (cO ops.toList) S' (kQ pl id S' fun S''=>K .nrm S'')))
      refine aw.chk (aC.bind2 wB (fun S1=>aC.bind2 (wC hC) (fun S'=>?_)))
      intro K h
      obtain ⟨h1,h2⟩:=m8 h
      obtain ⟨S'',h3,h4⟩:=pV _ h1
      exact ⟨_,_,h3,fun K' hk=>h2 _ (h4 _ hk)⟩
  | seq x y ihx ihy =>
    intro S
    show aw (fun (K:Ex→St→Prop)=>il C pl x S fun e S'=>match e with
      | .nrm=>il C pl y S' K
      | .ex i=>K (.ex i) S'
      | .ret=>K .ret S')
    refine aw.bind2 ihx (fun e S'=>?_)
    cases e with
    | nrm=>exact ihy
    | ex i=>exact aw.ret _ _
    | ret=>exact aw.ret _ _
  | cond c x y ihx ihy =>
    intro S
    show aw (fun (K:Ex→St→Prop)=>oJ c S fun b S'=>match b with
      | true=>il C pl x S' K
      | false=>il C pl y S' K)
    refine aw.bind2 C2 (fun b S'=>?_)
    cases b with
    | true=>exact ihx
    | false=>exact ihy
  | block id c ih =>
    intro S
    show aw (fun (K:Ex→St→Prop)=>il C pl c S fun e S'=>match e with
      | .ex i=>match Nat.beq i id with | true=>K .nrm S' | false=>K (.ex i) S'
      | .nrm=>K .nrm S'
      | .ret=>K .ret S')
    refine aw.bind2 ih (fun e S'=>?_)
    cases e with
    | nrm=>exact aw.ret _ _
    | ret=>exact aw.ret _ _
    | ex i =>
      show aw (fun (K:Ex→St→Prop)=>match Nat.beq i id with | true=>K .nrm S' | false=>K (.ex i) S')
      split
      · exact aw.ret _ _
      · exact aw.ret _ _
  | loop c ih=>exact hC.loop _ _ _
  | exit id=>exact aw.ret (Ex.ex id) _
  | ret=>exact aw.ret Ex.ret _
  | _=>exact fun K h=>False.elim h
theorem wD {P:Program} {S:St}:∀ {rs:List ResultVar},aC (xQ P S rs)
  | []=>aC.ret _
  | .tmp t::rs=>by
    show aC (fun K=>qC S.t t fun a=>xQ P S rs fun as=>K (a::as))
    exact aC.bind iq (fun a=>aC.bind wD (fun as=>aC.ret (a::as)))
  | .cell c t::rs=>by
    show aC (fun K=>qC S.t c fun p=>FO S p fun row j=>jg P t row j fun x=>xQ P S rs fun as=>K (x::as))
    exact aC.bind iq (fun a=>aw.bind vi (fun row j=>aC.bind dN (fun x=>aC.bind wD (fun as=>aC.ret (x::as)))))
theorem Gd {as:List AV}:aC (A5 as):=by
  unfold A5
  split <;> exact aC.ret _
theorem za {C:Ctx} (hC:gU C) {f:Nat} {args:List AV} {o:List Ob}:aw (ua C f args o):=by
  show aw (fun K:AV→St→Prop=>ua C f args o K)
  have e:(fun K:AV→St→Prop=>ua C f args o K)=fun K=>vQ C f args o K:=by funext K; exact propext yZ
  rw [e]
  unfold vQ
  split
  · rename_i fn _
    have resDet:∀ {S:St},aw (fun K:AV→St→Prop=>xQ C.P S fn.results.toList fun rs=>A5 rs fun r=>K r S):=fun {S}=>aC.bind2 wD (fun rs=>aC.bind2 Gd (fun r=>aw.ret r S))
    split
    · have e2:∀ (p:cm) (k:cm→(AV→St→Prop)→Prop),(fun K=>CL p fun pl=>k pl K)=fun K=>k p K:=fun p k=>by funext K; exact propext wo
      rw [e2]
      refine aw.bind2 (tg hC _) (fun e S=>?_)
      cases e with
      | ex i=>exact aw.failN
      | nrm=>exact resDet
      | ret=>exact resDet
    · exact aw.failN
  · exact aw.failN
theorem ti {C:Ctx} (hC:gU C) {f:Nat} {args:List AV}:aC (ud C f args):=aw.bind (za hC) (fun _ _=>lR)
theorem wE {C:Ctx} (hC:gU C) {f:Nat} {args:List AV} {o:List Ob}:aw (oV C f args o):=by
  show aw (fun (K:AV→List Ob→Prop)=>ua C f args o fun r S=>ca (ve 4 r&&Nat.beq S.b o.length) (K r S.o))
  exact aw.bind2 (za hC) (fun _ _=>aw.chk (aw.ret _ _))
structure Kd (cfg:qG):Prop where
  sound:∀ f args o K,cfg.xc f args o K→mo cfg.P f args o K
  det:∀ f args o,aw (cfg.xc f args o)
  pure:∀ f args r,cfg.xq f args=some r→CQ cfg.P f args r
theorem Kd.none {cfg:qG} (h:cfg.xc=fun _ _ _ _=>False) (hq:cfg.xq=fun _ _=>none):Kd cfg:=⟨fun f args o K hk=>(by rw [h] at hk; exact hk.elim),fun f args o=>(by rw [h]; exact aw.failN (n:=0)),fun f args r e=>(by rw [hq] at e; cases e)⟩
theorem m9 {cfg:qG} (hX:Kd cfg):∀ n,gU (gD cfg n)
  | 0=>⟨fun _ _=>aC.failN (n:=123),fun _ _ _=>aw.failN (n:=124),fun _ _ _=>aw.failN (n:=125)⟩
  | n + 1=>⟨fun f args=>by
      show aC fun K=>match cfg.xq f args with | some r=>K r | none=>ud (gD cfg n) f args K
      cases cfg.xq f args with
      | some r=>exact aC.ret r
      | none=>exact ti (m9 hX n),fun f args o=>by
      show aw fun K=>match cfg.xs f with | true=>cfg.xc f args o K | false=>oV (gD cfg n) f args o K
      cases cfg.xs f with
      | true=>exact hX.det _ _ _
      | false=>exact wE (m9 hX n),fun pl c S=>by
      have e0:(fun (K:Ex→St→Prop)=>vP (gD cfg n) fun C=>il C pl c S fun e S'=>match e with
        | .nrm=>C.loop pl c S' K
        | .ex i=>K (.ex i) S'
        | .ret=>K .ret S')=fun K=>il (gD cfg n) pl c S fun e S'=>match e with
        | .nrm=>(gD cfg n).loop pl c S' K
        | .ex i=>K (.ex i) S'
        | .ret=>K .ret S':=by funext K; exact propext qV
      show aw (fun (K:Ex→St→Prop)=>vP (gD cfg n) fun C=>il C pl c S fun e S'=>match e with
        | .nrm=>C.loop pl c S' K
        | .ex i=>K (.ex i) S'
        | .ret=>K .ret S')
      rw [e0]
      refine aw.bind2 (tg (m9 hX n) c) (fun e S'=>?_)
      cases e with
      | nrm=>exact (m9 hX n).loop _ _ _
      | ex i=>exact aw.ret _ _
      | ret=>exact aw.ret _ _⟩
theorem C4 {cfg:qG} (hX:Kd cfg) (n:Nat):wq (gD cfg n):=fun f args K h=>by
  obtain ⟨r,h1,h2⟩:=ti (m9 hX n) K h
  exact ⟨r,h1,h2 _ rfl⟩
def jA (S:St) (dst:Option Tmp) (v:AV) (m:Option St):St :=
  lI (match m with | none=>S | some M=>fX S M) dst v
def kR (S S2:St):Prop:=S2.l=S.l∧S2.o=S.o∧S2.b=S.b
theorem kR.refl (S:St):kR S S:=⟨rfl,rfl,rfl⟩
theorem kR.symm {S S2:St} (h:kR S S2):kR S2 S:=⟨h.1.symm,h.2.1.symm,h.2.2.symm⟩
theorem kR.trans {S S2 S3:St} (h:kR S S2) (k:kR S2 S3):kR S S3:=⟨k.1.trans h.1,k.2.1.trans h.2.1,k.2.2.trans h.2.2⟩
def pq (xs:List Operand) (S S2:St):Prop:=∀ d,Operand.tmp d∈xs→S2.t[d]?=S.t[d]?
theorem C5 {S S2:St} {x:Operand} {k:AV→Prop} (h:dx S x k) (ha:∀ d,x=.tmp d→S2.t[d]?=S.t[d]?):dx S2 x k:=by
  unfold dx at *
  split at h
  · rename_i d
    obtain ⟨c,hc,hk⟩:=cI.1 h
    exact cI.2 ⟨c,by rw [ha d rfl]; exact hc,hk⟩
  · exact h
  · exact h
  · exact h
theorem iU {S S2:St}:∀ {xs:List Operand} {k:List AV→Prop},eo S xs k→pq xs S S2→eo S2 xs k
  | [],_,h,_=>h
  | x::xs,k,h,ha=>by
    obtain ⟨c,h1,h2⟩:=cJ _ h
    have hx:dx S2 x fun a=>eo S2 xs fun as=>k (a::as):=by
      refine C5 (S:=S) (h2 _ ?_) (fun d e=>ha d (by rw [← e]; exact List.mem_cons_self))
      exact iU h1 (fun d hd=>ha d (List.mem_cons_of_mem _ hd))
    exact hx
def Looks (site:Option Nat) (S S2:St):Prop :=
  match site with
  | some r=>aN S2.l r=aN S.l r
  | none=>S2.o=S.o
def rT (site:Option Nat) (S M:St):Prop :=
  match site with
  | some r'=>M.o=S.o∧∀ r,r≠r'→aN M.l r=aN S.l r
  | none=>M.l=S.l
theorem Looks.of {site:Option Nat} {S S2:St} (h:kR S S2):Looks site S S2:=by
  cases site with
  | some r=>show aN S2.l r=_; rw [h.1]
  | none=>exact h.2.1
theorem Looks.symm {site:Option Nat} {S S2:St} (h:Looks site S S2):Looks site S2 S:=by
  cases site with
  | some r=>exact Eq.symm h
  | none=>exact Eq.symm h
theorem Looks.trans {site:Option Nat} {S S2 S3:St} (h:Looks site S S2) (k:Looks site S2 S3):Looks site S S3:=by
  cases site with
  | some r=>exact Eq.trans k h
  | none=>exact Eq.trans k h
def uX (pl:cm) (ops:Array Oper) (o:Oper) (S S2:St):Prop :=
  (gi pl o=1→Looks (gj pl ops o) S S2)∧(gi pl o=2→kR S S2)
theorem uX.of {pl:cm} {ops:Array Oper} {o:Oper} {S S2:St} (h:kR S S2):uX pl ops o S S2:=⟨fun _=>.of h,fun _=>h⟩
def uY (pl:cm) (ops:Array Oper) (o:Oper) (S:St) (m:Option St):Prop :=
  (gi pl o≠2→m=none)∧∀ M,m=some M→rT (gj pl ops o) S M
def LG (C:Ctx) (pl:cm) (ops:Array Oper) (o:Oper) (S:St) (v:AV) (m:Option St):Prop :=
  uY pl ops o S m∧∀ S2,pq o.op.operands.toList S S2→uX pl ops o S S2→∀ K2:St→Prop,K2 (jA S2 o.dst v m)→qF C pl ops o S2 K2
theorem BG {S S2:St} (h:kR S S2):dE S2=dE S:=by
  unfold dE
  rw [h.1,h.2.1,h.2.2]
theorem C6 {o:Oper} {t:Nat} (h:addrOf o=some t):Operand.tmp t∈o.op.operands.toList:=by
  unfold addrOf at h
  split at h
  · rename_i ty x ho
    cases h
    rw [ho]
    simp [Op.operands]
  · rename_i ty x y ho
    cases h
    rw [ho]
    simp [Op.operands]
  · cases h
theorem Ai {pl:cm} {ops:Array Oper} {o:Oper} {S S2:St} (ha:pq o.op.operands.toList S S2):jP pl ops o S2=jP pl ops o S:=by
  unfold jP
  cases ht:addrOf o with
  | none=>rfl
  | some t =>
    dsimp only
    rw [ha t (C6 ht)]
theorem q6 {pl:cm} {ops:Array Oper} {o:Oper} {S:St} {t:Nat} (h:jP pl ops o S=true) (ht:addrOf o=some t):∃ c,S.t[t]?=some c∧oR c (gj pl ops o)=true:=by
  unfold jP at h
  rw [ht] at h
  dsimp only at h
  split at h
  · rename_i c hc
    exact ⟨c,hc,h⟩
  · cases h
theorem pt {c:AV} {r:Nat} (h:oR c (some r)=true):∃ i j,c=.ptr (.L r) i j:=by
  unfold oR at h
  split at h
  · rename_i d i j r' hr
    cases hr
    have:=Nat.eq_of_beq_eq_true h
    subst this
    exact ⟨i,j,rfl⟩
  · rename_i hr; cases hr
  · rename_i hr; cases hr
  · cases h
theorem uA {c:AV} (h:oR c none=true):(∃ id i j,c=.ptr (.O id) i j)∨∃ row j,c=.fptr row j:=by
  unfold oR at h
  split at h
  · rename_i hr; cases hr
  · rename_i id i j _; exact .inl ⟨id,i,j,rfl⟩
  · rename_i row j _; exact .inr ⟨row,j,rfl⟩
  · cases h
theorem Ge {C:Ctx} {o:Oper} {ty:TypeId} {x:Operand} (ho:o.op=.load ty x) {r i j:Nat} {M M2:St} (h:aN M2.l r=aN M.l r) {k:AV→Prop} (hk:p8 C o [.ptr (.L r) i j] M k):p8 C o [.ptr (.L r) i j] M2 k:=by
  unfold p8 at hk ⊢
  rw [ho] at hk ⊢
  unfold FO xM at hk ⊢
  dsimp only at hk ⊢
  rw [h]
  exact hk
theorem zb {C:Ctx} {o:Oper} {ty:TypeId} {x:Operand} (ho:o.op=.load ty x) {c:AV} (hc:oR c none=true) {M M2:St} (h:M2.o=M.o) {k:AV→Prop} (hk:p8 C o [c] M k):p8 C o [c] M2 k:=by
  unfold p8 at hk ⊢
  rw [ho] at hk ⊢
  rcases uA hc with ⟨id,i,j,rfl⟩ | ⟨row,j,rfl⟩
  · unfold FO xM at hk ⊢
    dsimp only at hk ⊢
    rw [h]
    exact hk
  · exact hk
theorem HJ {size:Nat} {x:AV} {S S2:St} (h:S2.o=S.o) {k:Bool→List (List AV)→Prop}:kq size S x k→kq size S2 x k:=by
  obtain ⟨t,l,oo,b⟩:=S
  obtain ⟨t2,l2,oo2,b2⟩:=S2
  have h':oo2=oo:=h
  subst h'
  unfold kq
  split <;> exact fun h=>h
theorem BH {P:Program} {src dst:TypeId} {x:AV} {S S2:St} (h:S2.o=S.o) {k:AV→Prop}:gd P src dst x S k→gd P src dst x S2 k:=by
  unfold gd
  split
  · split
    · intro hk
      obtain ⟨h1,h2⟩:=ab hk
      exact ar h1 (HJ h h2)
    · exact fun h=>h
  · exact fun h=>h
theorem Ke {C:Ctx} {o:Oper} (ho:∀ ty x,o.op≠.load ty x) {vs:List AV} {M M2:St} (h:M2.o=M.o) {k:AV→Prop}:p8 C o vs M k→p8 C o vs M2 k:=by
  obtain ⟨t,l,oo,b⟩:=M
  obtain ⟨t2,l2,oo2,b2⟩:=M2
  have h':oo2=oo:=h
  subst h'
  unfold p8
  split
  all_goals first
    | exact fun h=>h
    | exact BH rfl
    | (exfalso; rename_i h1; exact ho _ _ h1)
    | (exfalso; rename_i h1 _; exact ho _ _ h1)
theorem wF {S:St} {g:Nat} {xs:List Operand} {k:List AV→Prop} (h:eo S (.global g::xs) k):∃ row,eo S xs fun as=>k (.fptr row 0::as):=by
  have h':dx S (.global g) fun a=>eo S xs fun as=>k (a::as):=h
  cases hg:IW g with
  | none=>simp only [dx,hg] at h'; exact False.elim h'
  | some row=>simp only [dx,hg] at h'; exact ⟨row,h'⟩
theorem ze {S:St} {t:Nat} {k:List AV→Prop} {a:AV} (ha:S.t[t]?=some a) (h:eo S [.tmp t] k):k [a]:=by
  obtain ⟨c,hc,h⟩:=cI.1 h
  rw [ha] at hc
  cases hc
  exact h
theorem zf {S:St} {t:Nat} {y:Operand} {k:List AV→Prop} {a:AV} (ha:S.t[t]?=some a) (h:eo S [.tmp t,y] k):∃ b,k [a,b]:=by
  obtain ⟨c,hc,h⟩:=cI.1 h
  rw [ha] at hc
  cases hc
  obtain ⟨b,h1,_⟩:=cJ _ h
  exact ⟨b,h1⟩
theorem Gf {C:Ctx} {o:Oper} {c:AV} {site:Option Nat} {y:AV} {M:St} {k:AV→St→Prop} (hs:oR c site=true) (h:yD C o [c,y] M k):yD C o [c,y] M fun v M'=>k v M'∧rT site M M':=by
  obtain ⟨v,M',h1,h2⟩:=mt _ h
  refine h2 _ ⟨h1,?_⟩
  have h3:=h2 (fun _ M''=>M''=M') rfl
  unfold yD at h3
  split at h3
  · rename_i ty X Y p z ho e
    cases e
    obtain ⟨cs,h4,_⟩:=cE _ h3
    split at h4
    · obtain ⟨_,h4⟩:=ab h4
      cases site with
      | some r' =>
        obtain ⟨i,j,rfl⟩:=pt hs
        unfold mH at h4
        dsimp only at h4
        split at h4
        · rename_i row hrow
          split at h4
          · obtain ⟨_,h4⟩:=ab h4
            rw [ez,jm] at h4
            subst h4
            refine ⟨rfl,fun r hr=>?_⟩
            show aN (rv M.l r' _) r=_
            rw [jT hrow,if_neg (fun e=>hr e.symm)]
          · exact False.elim h4
        · exact False.elim h4
      | none =>
        rcases uA hs with ⟨id,i,j,rfl⟩ | ⟨row,j,rfl⟩
        · unfold mH at h4
          dsimp only at h4
          split at h4
          · split at h4
            · obtain ⟨_,h4⟩:=ab h4
              rw [ez,aF] at h4
              subst h4
              rfl
            · exact False.elim h4
          · exact False.elim h4
        · exact False.elim h4
    · exact False.elim h4
  · exact False.elim h3
theorem wG {P:Program} {t:TypeId} {l c:AV} {M:St} {k:St→AV→Prop} (h:cC P t l c M k):cC P t l c M fun M' r=>k M' r∧M'.l=M.l:=by
  obtain ⟨M',r,h1,h2⟩:=gF _ h
  refine h2 _ ⟨h1,?_⟩
  have h3:=h2 (fun M'' _=>M''=M') rfl
  unfold cC at h3
  split at h3
  · split at h3
    · obtain ⟨n,h4,_⟩:=bn _ h3
      obtain ⟨m,h5,_⟩:=bn _ h4
      obtain ⟨_,h5⟩:=ab h5
      obtain ⟨z,h6,_⟩:=aP _ h5
      obtain ⟨_,h6⟩:=ab h6
      rw [aF] at h6
      rw [← h6]
    · exact False.elim h3
  · exact False.elim h3
theorem wH {M:St} {id i:Nat} {k:AV→St→Prop} (h:fY M id i k) (hk:∀ v M',M'.l=M.l→k v M'→False):False:=by
  unfold fY at h
  split at h
  · split at h
    · exact hk _ _ (by rfl) h
    · rw [aF] at h
      exact hk _ _ (by rfl) h
    · exact h
  · exact h
theorem C7 {P:Program} {t:TypeId} {same:Bool} {M:St} {id i:Nat} {k:AV→St→Prop} (h:jk P t same M id i k) (hk:∀ v M',M'.l=M.l→k v M'→False):False:=by
  unfold jk at h
  split at h
  · split at h
    · obtain ⟨_,h⟩:=ab h
      obtain ⟨r,h,_⟩:=dN _ h
      exact hk _ _ (by rfl) h
    · exact h
  · refine wH h (fun v M' e h=>?_)
    obtain ⟨r,h,_⟩:=dN _ h
    exact hk _ _ e h
theorem BI {P:Program} {t:TypeId} {M:St} {id i:Nat} {v:AV} {K:St→Prop} (h:gP P t M id i v K) (hk:∀ M',M'.l=M.l→K M'→False):False:=by
  unfold gP at h
  split at h
  · obtain ⟨_,h⟩:=ab h
    rw [aF] at h
    exact hk _ (by rfl) h
  · exact h
theorem C8 {P:Program} {t:TypeId} {j:Nat} {l c:AV} {M:St} {k:AV→St→Prop} (h:ik P j t l c M k) (hk:∀ v M',M'.l=M.l→k v M'→False):False:=by
  unfold ik at h
  split at h
  · split at h
    · split at h
      · obtain ⟨n,h,_⟩:=bn _ h
        obtain ⟨m,h,_⟩:=bn _ h
        obtain ⟨_,h⟩:=ab h
        obtain ⟨z,h,_⟩:=aP _ h
        split at h
        · obtain ⟨_,h,_⟩:=nK _ h
          exact hk _ _ (by rfl) h
        · exact h
      · exact h
    · exact h
  · exact h
theorem yc {P:Program} {t:TypeId} {M:St} {k:AV→St→Prop} (h:gC P t M k) (hk:∀ v M',M'.l=M.l→k v M'→False):False:=by
  unfold gC at h
  split at h
  · split at h
    · split at h
      · obtain ⟨_,h⟩:=ab h
        rw [aF] at h
        exact hk _ _ (by rfl) h
      · exact h
    · exact h
  · exact h
theorem C9 {P:Program} {t:TypeId} {m key:AV} {ok:Bool} {M:St} {k:AV→St→Prop} (h:jl P t m key ok M k) (hk:∀ v M',M'.l=M.l→k v M'→False):False:=by
  unfold jl at h
  split at h
  · split at h
    · split at h
      · obtain ⟨x,r,h,_⟩:=dQ _ h
        split at h
        · refine wH h (fun v M' e h=>?_)
          obtain ⟨r,h,_⟩:=ge _ h
          exact hk _ _ e h
        · obtain ⟨r,h,_⟩:=fo _ h
          exact hk _ _ (by rfl) h
      · exact h
    · exact h
  · exact h
theorem zg {P:Program} {t:TypeId} {m key x:AV} {M:St} {K:St→Prop} (h:j7 P t m key x M K) (hk:∀ M',M'.l=M.l→K M'→False):False:=by
  unfold j7 at h
  split at h
  · split at h
    · split at h
      · obtain ⟨_,h⟩:=ab h
        obtain ⟨x,r,h,_⟩:=dQ _ h
        obtain ⟨_,h⟩:=ab h
        split at h
        · obtain ⟨_,h⟩:=ab h
          rw [aF] at h
          exact hk _ (by rfl) h
        · split at h
          · rw [aF] at h
            exact hk _ (by rfl) h
          · exact h
      · exact h
    · exact h
  · exact h
theorem BJ {M:St} {x:AV} {X:Nat→Nat→Prop} (h:jO M x X) (hk:∀ id i,X id i→False):False:=by
  unfold jO at h
  split at h
  · split at h
    · exact hk _ _ h
    · exact h
  · exact h
theorem I6 {P:Program} {pl:cm} {o:Oper} {vs:List AV} {M:St} {k:AV→St→Prop} (h:l9 P pl o vs M k) (hk:∀ v M',M'.l=M.l→k v M'→False):False:=by
  unfold l9 at h
  split at h
  · exact BJ h (fun _ _ h=>C7 h hk)
  · exact BJ h (fun _ _ h=>BI h (fun M' e h=>hk _ _ e h))
  · exact C8 h hk
  · exact yc h hk
  · exact C9 h hk
  · exact zg h (fun M' e h=>hk _ _ e h)
  · exact zg h (fun M' e h=>hk _ _ e h)
  · exact h
theorem E0 {P:Program} {pl:cm} {o:Oper} {vs:List AV} {M:St} {k:AV→St→Prop} (h:l9 P pl o vs M k):l9 P pl o vs M fun v M'=>k v M'∧M'.l=M.l:=by
  obtain ⟨v,M',h1,h2⟩:=wz _ h
  refine h2 _ ⟨h1,?_⟩
  by_cases e:M'.l=M.l
  · exact e
  · exact (I6 (h2 (fun _ M''=>M''.l≠M.l) e) (fun _ _ e h=>h e)).elim
theorem Gg {P:Program} {pl:cm} {o:Oper} {x:AV} {vs:List AV} {M:St} {k:AV→St→Prop} (h:l9 P pl o (x::vs) M k) (ht:(addrOf o).isSome=true):∀ d i j,x≠.ptr (.L d) i j:=by
  intro d i j e
  subst e
  unfold l9 at h
  unfold addrOf at ht
  split at h
  · rename_i he
    cases he
    exact h
  · rename_i he
    cases he
    exact h
  · rename_i ho _
    rw [ho] at ht
    cases ht
  · rename_i he
    cases he
  · rename_i ho _
    rw [ho] at ht
    cases ht
  · rename_i ho _
    rw [ho] at ht
    cases ht
  · rename_i ho _
    rw [ho] at ht
    cases ht
  · exact h
def zh (pl:cm) (o:Oper):Prop:=((∃ t X Y,o.op=.makeSlice t X Y)∨∃ c,o.op=.call c)∨gB pl o=true
theorem zi {pl:cm} {o:Oper} (h:¬ zh pl o):gB pl o=false:=by
  cases e:gB pl o with
  | false=>rfl
  | true=>exact absurd (.inr e) h
theorem zj {pl:cm} {o:Oper} (h:gi pl o≠2):gB pl o=false:=by
  cases e:gB pl o with
  | false=>rfl
  | true=>exact absurd (by unfold gi; rw [e]) h
theorem q7 {C:Ctx} {pl:cm} {o:Oper} {vs:List AV} {M:St} {k:AV→St→Prop} (h:¬ zh pl o):nu C pl o vs M k=yD C o vs M k:=by
  unfold nu
  rw [zi h]
  dsimp only
  unfold mm
  split
  · rename_i t X Y l c ho
    exact absurd (.inl (.inl ⟨t,X,Y,ho⟩)) h
  · rename_i c _ _ _ _ ho
    exact absurd (.inl (.inr ⟨c,ho⟩)) h
  · rfl
theorem E4 {C:Ctx} (hC:gU C) {pl:cm} {o:Oper} {vs:List AV} {M:St} {k:AV→St→Prop} (hm:zh pl o) (h:nu C pl o vs M k):nu C pl o vs M fun v M'=>k v M'∧M'.l=M.l:=by
  unfold nu at h ⊢
  cases e:gB pl o with
  | true =>
    rw [e] at h
    exact E0 h
  | false =>
    rw [e] at h
    have hm:(∃ t X Y,o.op=.makeSlice t X Y)∨∃ c,o.op=.call c:=by
      rcases hm with hm | hm
      · exact hm
      · rw [e] at hm; cases hm
    dsimp only at h ⊢
    unfold mm at h ⊢
    split at h
    · rename_i t' X' Y' l c ho'
      exact wG h
    · split at h
      · obtain ⟨h1,h⟩:=ab h
        refine ar h1 ?_
        obtain ⟨r,o',h2,h3⟩:=hC.scall _ _ _ _ h
        refine h3 _ ?_
        obtain ⟨h4,h5⟩:=ab h2
        exact ar h4 ⟨h5,rfl⟩
      · exact h.elim
    · exfalso
      unfold yD at h
      split at h
      · rename_i heq x1 x2
        rcases hm with ⟨t,X,Y,ho⟩ | ⟨c,ho⟩ <;> (rw [ho] at heq; cases heq)
      · exact h
theorem Gi {pl:cm} {o:Oper} {ty:TypeId} {x:Operand} (hw:gB pl o=false) (ho:o.op=.load ty x):gi pl o=1:=by
  unfold gi
  rw [hw]
  dsimp only
  unfold yE
  rw [ho]
  dsimp only
  unfold FX
  rw [ho]
theorem E5 {pl:cm} {o:Oper} {ty:TypeId} {x y:Operand} (hw:gB pl o=false) (ho:o.op=.store ty x y):gi pl o=2:=by
  unfold gi
  rw [hw]
  dsimp only
  unfold yE
  rw [ho]
  dsimp only
  unfold FX
  rw [ho]
theorem C_ {C:Ctx} {pl:cm} {ops:Array Oper} {o:Oper} {S:St} {vs:List AV} {k:AV→St→Prop} (hm:zh pl o) (hkey:jP pl ops o S=true) (hget:eo S o.op.operands.toList (fun x=>x=vs)) (h:nu C pl o vs (dE S) k):gj pl ops o=none:=by
  cases ht:addrOf o with
  | none=>unfold gj; rw [ht]
  | some t =>
    obtain ⟨c,hc1,hc2⟩:=q6 hkey ht
    cases hs:gj pl ops o with
    | none=>rfl
    | some r =>
      exfalso
      rw [hs] at hc2
      obtain ⟨i,j,rfl⟩:=pt hc2
      have hw:gB pl o=true:=by
        rcases hm with (⟨t',X,Y,ho⟩ | ⟨c,ho⟩) | hm
        · unfold addrOf at ht; rw [ho] at ht; cases ht
        · unfold addrOf at ht; rw [ho] at ht; cases ht
        · exact hm
      unfold nu at h
      rw [hw] at h
      dsimp only at h
      have hx:∃ ys,vs=.ptr (.L r) i j::ys:=by
        unfold addrOf at ht
        split at ht
        · rename_i ty x ho
          cases ht
          have hop:o.op.operands.toList=[.tmp t]:=by rw [ho]; simp [Op.operands]
          rw [hop] at hget
          exact ⟨[],(ze hc1 hget).symm⟩
        · rename_i ty x y ho
          cases ht
          have hop:o.op.operands.toList=[.tmp t,y]:=by rw [ho]; simp [Op.operands]
          rw [hop] at hget
          obtain ⟨b,hb⟩:=zf hc1 hget
          exact ⟨[b],hb.symm⟩
        · cases ht
      obtain ⟨ys,rfl⟩:=hx
      exact Gg h (by rw [ht]; rfl) r i j rfl
theorem E6 {pl:cm} {o:Oper} {t:Nat} (h:addrOf o=some t) (hc:gi pl o=1):∃ ty,o.op=.load ty (.tmp t):=by
  unfold addrOf at h
  split at h
  · rename_i ty x ho
    cases h
    exact ⟨ty,ho⟩
  · rename_i ty x y ho
    rw [E5 (zj (by rw [hc]; decide)) ho] at hc
    cases hc
  · cases h
theorem Da {pl:cm} {o:Oper} {t:Nat} (h:addrOf o=some t) (hw:gB pl o=false) (hc:gi pl o=2):∃ ty y,o.op=.store ty (.tmp t) y:=by
  unfold addrOf at h
  split at h
  · rename_i ty x ho
    rw [Gi hw ho] at hc
    cases hc
  · rename_i ty x y ho
    cases h
    exact ⟨ty,y,ho⟩
  · cases h
theorem D4 {C:Ctx} (hC:gU C) {pl:cm} {ops:Array Oper} {o:Oper} {S:St} {K:St→Prop} (hez:CJ (gi pl o)=true) (h:qF C pl ops o S K):∃ v m,LG C pl ops o S v m∧K (jA S o.dst v m):=by
  obtain ⟨hkey,h⟩:=ab h
  have fin:∀ {S2:St} {K2:St→Prop},pq o.op.operands.toList S S2→xK C pl o S2 K2→qF C pl ops o S2 K2:=fun ha h=>ar (by rw [Ai ha]; exact hkey) h
  unfold xK at h
  split at h
  · rename_i hc
    obtain ⟨vs,h1,h2⟩:=bm _ h
    obtain ⟨r,h3,h4⟩:=vj _ h1
    rw [aJ] at h3
    refine ⟨r,none,⟨⟨fun _=>rfl,fun M e=>by cases e⟩,fun S2 ha _ K2 hk=>fin ha ?_⟩,h3⟩
    unfold xK
    rw [hc]
    refine iU (S:=S) (h2 (fun vs=>pop C pl o vs fun r=>b_ o.dst r S2 K2) (h4 _ ?_)) ha
    rw [aJ]
    exact hk
  · rename_i hc
    obtain ⟨vs,h1,h2⟩:=bm _ h
    obtain ⟨r,h3,h4⟩:=vk hC _ h1
    rw [aJ] at h3
    refine ⟨r,none,⟨⟨fun _=>rfl,fun M e=>by cases e⟩,fun S2 ha hm K2 hk=>fin ha ?_⟩,h3⟩
    unfold xK
    rw [hc]
    have h5:=h4 (fun r=>b_ o.dst r S2 K2) (by rw [aJ]; exact hk)
    have hm1:=hm.1 hc
    refine iU (S:=S) (h2 (fun vs=>p8 C o vs (dE S2) fun r=>b_ o.dst r S2 K2) ?_) ha
    cases ht:addrOf o with
    | some t =>
      obtain ⟨c,hc1,hc2⟩:=q6 hkey ht
      obtain ⟨ty,ho⟩:=E6 ht hc
      have hop:o.op.operands.toList=[.tmp t]:=by rw [ho]; simp [Op.operands]
      have hvs:vs=[c]:=by
        have:=h2 (fun x=>x=vs) rfl
        rw [hop] at this
        exact (ze hc1 this).symm
      subst hvs
      cases hs:gj pl ops o with
      | some r =>
        rw [hs] at hm1 hc2
        obtain ⟨i,j,rfl⟩:=pt hc2
        exact Ge ho (M:=dE S) hm1 h5
      | none =>
        rw [hs] at hm1 hc2
        exact zb ho hc2 (M:=dE S) hm1 h5
    | none =>
      have hs:gj pl ops o=none:=by unfold gj; rw [ht]
      rw [hs] at hm1
      by_cases hl:∃ ty x,o.op=.load ty x
      · obtain ⟨ty,x,ho⟩:=hl
        have hop:o.op.operands.toList=[x]:=by rw [ho]; simp [Op.operands]
        by_cases hglob:∃ g,x=.global g
        · obtain ⟨g,rfl⟩:=hglob
          have hv:=h2 (fun x=>x=vs) rfl
          rw [hop] at hv
          obtain ⟨row,hv⟩:=wF hv
          have hv':[AV.fptr row 0]=vs:=hv
          subst hv'
          exact zb ho rfl (M:=dE S) hm1 h5
        exfalso
        cases x with
        | tmp t=>unfold addrOf at ht; rw [ho] at ht; cases ht
        | const cc =>
          have hv:=h2 (fun x=>x=vs) rfl
          rw [hop] at hv
          have hv':vs=[EE cc]:=by
            have:lA (EE cc) (fun a=>[a]=vs):=hv
            rw [cV] at this
            exact this.symm
          subst hv'
          have h6:=h1
          unfold p8 at h6
          rw [ho] at h6
          have h7:FO (dE S) (EE cc) fun row j=>jg C.P ty row j fun r=>b_ o.dst r S K:=h6
          have hno:∀ c:Value,(∀ k i j,EE c≠.ptr k i j)∧∀ r j,EE c≠.fptr r j:=by
            intro c
            refine ⟨fun k i j=>?_,fun r j=>?_⟩ <;>
            · unfold EE
              split
              · intro h; cases h
              · unfold vC
                split <;> intro h <;> cases h
          unfold FO at h7
          split at h7
          · rename_i k i j he; exact (hno cc).1 _ _ _ he
          · rename_i r j he; exact (hno cc).2 _ _ he
          · exact h7
        | func f =>
          have hv:=h2 (fun x=>x=vs) rfl
          rw [hop] at hv
          have hv':[AV.fn f [] []]=vs:=hv
          subst hv'
          have h6:=h1
          unfold p8 at h6
          rw [ho] at h6
          exact h6
        | global g=>exact hglob ⟨g,rfl⟩
      · exact Ke (fun ty x he=>hl ⟨ty,x,he⟩) (M:=dE S) hm1 h5
  · rename_i hc
    obtain ⟨vs,h1,h2⟩:=bm _ h
    by_cases hmk:zh pl o
    · obtain ⟨r,M,⟨h3,h5⟩,h4⟩:=BC hC _ (E4 hC hmk h1)
      rw [aJ] at h3
      refine ⟨r,some M,⟨⟨fun hn=>absurd hc hn,fun M' e=>?_⟩,fun S2 ha hm K2 hk=>fin ha ?_⟩,h3⟩
      · cases e
        rw [C_ hmk hkey (h2 (fun x=>x=vs) rfl) h1]
        exact h5
      · unfold xK
        rw [hc]
        have hm':=BG (hm.2 hc)
        refine iU (S:=S) (h2 (fun vs=>nu C pl o vs (dE S2) fun r M=>b_ o.dst r (fX S2 M) K2) ?_) ha
        rw [hm']
        refine h4 _ ?_
        rw [aJ]
        exact hk
    rw [q7 hmk] at h1
    have hkeep:yD C o vs (dE S) fun v M'=>(fun v M=>b_ o.dst v (fX S M) K) v M'∧(∀ t,addrOf o=some t→rT (gj pl ops o) S M'):=by
      cases ht:addrOf o with
      | none =>
        obtain ⟨r,M,h3,h4⟩:=mt _ h1
        exact h4 _ ⟨h3,fun t e=>by cases e⟩
      | some t =>
        obtain ⟨c,hc1,hc2⟩:=q6 hkey ht
        obtain ⟨ty,y,ho⟩:=Da ht (zi hmk) hc
        have hop:o.op.operands.toList=[.tmp t,y]:=by rw [ho]; simp [Op.operands]
        have hvs:∃ b,vs=[c,b]:=by
          have:=h2 (fun x=>x=vs) rfl
          rw [hop] at this
          obtain ⟨b,hb⟩:=zf hc1 this
          exact ⟨b,hb.symm⟩
        obtain ⟨b,rfl⟩:=hvs
        obtain ⟨r,M,h3,h4⟩:=mt _ (Gf hc2 h1)
        exact h4 _ ⟨h3.1,fun t' _=>(show rT (gj pl ops o) (dE S) M from h3.2)⟩
    obtain ⟨r,M,⟨h3,h5⟩,h4⟩:=mt _ hkeep
    rw [aJ] at h3
    refine ⟨r,some M,⟨⟨fun hn=>absurd hc hn,fun M' e=>?_⟩,fun S2 ha hm K2 hk=>fin ha ?_⟩,h3⟩
    · cases e
      cases ht:addrOf o with
      | some t=>exact h5 t ht
      | none =>
        exfalso
        have h6:=h4 (fun _ _=>True) trivial
        unfold yD at h6
        split at h6
        · rename_i ty X Y p z ho
          cases X with
          | tmp t=>unfold addrOf at ht; rw [ho] at ht; cases ht
          | const cc =>
            have hv:=h2 (fun x=>x=[p,z]) rfl
            have hop:o.op.operands.toList=[.const cc,Y]:=by rw [ho]; simp [Op.operands]
            rw [hop] at hv
            have hv':lA (EE cc) fun a=>dx S Y fun b=>[a,b]=[p,z]:=hv
            rw [cV] at hv'
            obtain ⟨b,hb,_⟩:=cJ _ hv'
            cases hb
            obtain ⟨cs,h7,_⟩:=cE _ h6
            have hno:∀ c:Value,∀ k i j,EE c≠.ptr k i j:=by
              intro c k i j
              unfold EE
              split
              · intro h; cases h
              · unfold vC
                split <;> intro h <;> cases h
            split at h7
            · obtain ⟨_,h7⟩:=ab h7
              unfold mH at h7
              split at h7
              · rename_i he; exact hno cc _ _ _ he
              · rename_i he; exact hno cc _ _ _ he
              · exact h7
            · exact h7
          | func f =>
            have hv:=h2 (fun x=>x=[p,z]) rfl
            have hop:o.op.operands.toList=[.func f,Y]:=by rw [ho]; simp [Op.operands]
            rw [hop] at hv
            have hv':dx S Y fun b=>[AV.fn f [] [],b]=[p,z]:=hv
            obtain ⟨b,hb,_⟩:=cJ _ hv'
            cases hb
            obtain ⟨cs,h7,_⟩:=cE _ h6
            split at h7
            · obtain ⟨_,h7⟩:=ab h7
              exact h7
            · exact h7
          | global g =>
            have hv:=h2 (fun x=>x=[p,z]) rfl
            have hop:o.op.operands.toList=[.global g,Y]:=by rw [ho]; simp [Op.operands]
            rw [hop] at hv
            obtain ⟨row,hv⟩:=wF hv
            have hv':dx S Y fun b=>[AV.fptr row 0,b]=[p,z]:=hv
            obtain ⟨b,hb,_⟩:=cJ _ hv'
            cases hb
            obtain ⟨cs,h7,_⟩:=cE _ h6
            split at h7
            · obtain ⟨_,h7⟩:=ab h7
              exact h7
            · exact h7
        · exact h6
    · unfold xK
      rw [hc]
      have hm':=BG (hm.2 hc)
      refine iU (S:=S) (h2 (fun vs=>nu C pl o vs (dE S2) fun r M=>b_ o.dst r (fX S2 M) K2) ?_) ha
      rw [hm',q7 hmk]
      refine h4 _ ?_
      rw [aJ]
      exact hk
  · rename_i hc
    split at h
    · rename_i d hd
      rw [aJ] at h
      refine ⟨_,none,⟨⟨fun _=>rfl,fun M e=>by cases e⟩,fun S2 ha _ K2 hk=>fin ha ?_⟩,h⟩
      unfold xK
      rw [hc]
      show match o.dst with
        | some d=>b_ o.dst (.ptr (.L d) 0 0) S2 K2
        | none=>ah 217
      split
      · rename_i d2 hd2
        rw [hd] at hd2
        cases hd2
        rw [aJ]
        exact hk
      · rename_i hd2
        rw [hd] at hd2
        cases hd2
    · exact False.elim h
  · rename_i hc
    obtain ⟨vs,h1,h2⟩:=bm _ h
    obtain ⟨r,h3,h4⟩:=vl _ h1
    rw [aJ] at h3
    refine ⟨r,none,⟨⟨fun _=>rfl,fun M e=>by cases e⟩,fun S2 ha _ K2 hk=>fin ha ?_⟩,h3⟩
    unfold xK
    rw [hc]
    refine iU (S:=S) (h2 (fun vs=>IX C o vs fun r=>b_ o.dst r S2 K2) (h4 _ ?_)) ha
    rw [aJ]
    exact hk
  · rename_i h0 h1 h2 h4 h5
    exfalso
    unfold CJ at hez
    split at hez
    · rename_i he; exact h0 he
    · rename_i he; exact h1 he
    · rename_i he; exact h2 he
    · rename_i he; exact h4 he
    · rename_i he; exact h5 he
    · cases hez
theorem Aj {S:St} {t:List AV} (h:t=S.t):({ t:=t,l:=S.l,o:=S.o,b:=S.b }:St)=S:=by
  subst h; rfl
theorem pu {t:List AV} {d:Nat} {x:AV} (h:t[d]?=some x):t.set d x=t:=by
  apply List.ext_getElem?
  intro j
  rw [List.getElem?_set]
  by_cases hj:d=j
  · subst hj
    rw [if_pos rfl,if_pos (List.getElem?_eq_some_iff.1 h).1,h]
  · rw [if_neg hj]
def D5 (S:St) (d:Nat) (b:Option Bool):Prop :=
  match b with
  | some b=>S.t[d]?=some (.v (.bool b))
  | none=>S.t[d]?=some (.tup [])
theorem uB {d:Nat} {S:St} {k:Option Bool→St→Prop}:gQ d S k↔∃ b,D5 S d b∧k b S:=by
  constructor
  · intro h
    unfold gQ at h
    rw [cI] at h
    obtain ⟨c,hc,h⟩:=h
    split at h
    · rename_i b
      rcases m3 h with ⟨hb,h2⟩ | ⟨hb,h2⟩
      · subst hb
        rw [eT,Aj (pu hc)] at h2
        exact ⟨some true,hc,h2⟩
      · subst hb
        rw [eT,Aj (pu hc)] at h2
        exact ⟨some false,hc,h2⟩
    · exact ⟨none,hc,h⟩
    · exact False.elim h
  · rintro ⟨b,hb,h⟩
    unfold gQ
    rw [cI]
    cases b with
    | none=>exact ⟨_,hb,h⟩
    | some b =>
      refine ⟨_,hb,?_⟩
      dsimp only
      refine CM (fun e=>?_) (fun e=>?_)
      · subst e; rw [eT,Aj (pu hb)]; exact h
      · subst e; rw [eT,Aj (pu hb)]; exact h
def agree (ops:Array Oper) (o:Oper) (S S2:St):Prop:=∀ d∈o.looksAt ops,S2.t[d]?=S.t[d]?
def Eff (C:Ctx) (pl:cm) (ops:Array Oper) (o:Oper) (S:St) (v:AV) (m:Option St):Prop :=
  uY pl ops o S m∧∀ S2,agree ops o S S2→uX pl ops o S S2→∀ K2:St→Prop,K2 (jA S2 o.dst v m)→ag C pl ops o S2 K2
theorem zk {ops:Array Oper} {o:Oper} {S S2:St} (h:agree ops o S S2):pq o.op.operands.toList S S2:=fun d hd =>
  h d (List.mem_append_left _ (List.mem_filterMap.2 ⟨.tmp d,hd,rfl⟩))
theorem Gj {C:Ctx} (hC:gU C) {pl:cm} {ops:Array Oper} {o:Oper} {S:St} {K:St→Prop} (hez:CJ (gi pl o)=true) (h:ag C pl ops o S K):∃ v m,Eff C pl ops o S v m∧K (jA S o.dst v m):=by
  unfold ag at h
  split at h
  · rename_i hg
    obtain ⟨v,m,⟨h1,h2⟩,h3⟩:=D4 hC hez h
    refine ⟨v,m,⟨h1,fun S2 ha hm K2 hk=>?_⟩,h3⟩
    unfold ag
    rw [hg]
    exact h2 S2 (zk ha) hm K2 hk
  · rename_i j want hg
    split at h
    · exact False.elim h
    · rename_i d hd
      obtain ⟨b,hb,h⟩:=uB.1 h
      have hlook:d∈o.looksAt ops:=List.mem_append_right _ (by
        rw [hg]
        unfold ry at hd
        simp [hd])
      have hin:∀ (S2:St) (K2:St→Prop),agree ops o S S2→gsel b want (qF C pl ops o S2 K2) (b_ o.dst (.tup []) S2 K2)→ag C pl ops o S2 K2:=by
        intro S2 K2 ha hk
        unfold ag
        rw [hg]
        dsimp only
        rw [hd]
        refine uB.2 ⟨b,?_,hk⟩
        unfold D5 at hb ⊢
        rw [ha d hlook]
        exact hb
      have yes:qF C pl ops o S K→(∀ (S2:St) (K2:St→Prop),agree ops o S S2→qF C pl ops o S2 K2→ag C pl ops o S2 K2)→∃ v m,Eff C pl ops o S v m∧K (jA S o.dst v m):=by
        intro h hi
        obtain ⟨v,m,⟨h1,h2⟩,h3⟩:=D4 hC hez h
        exact ⟨v,m,⟨h1,fun S2 ha hm K2 hk=>hi S2 K2 ha (h2 S2 (zk ha) hm K2 hk)⟩,h3⟩
      have no:b_ o.dst (.tup []) S K→(∀ (S2:St) (K2:St→Prop),agree ops o S S2→b_ o.dst (.tup []) S2 K2→ag C pl ops o S2 K2)→∃ v m,Eff C pl ops o S v m∧K (jA S o.dst v m):=by
        intro h hi
        rw [aJ] at h
        exact ⟨.tup [],none,⟨⟨fun _=>rfl,fun M e=>by cases e⟩,fun S2 ha _ K2 hk=>hi S2 K2 ha (by rw [aJ]; exact hk)⟩,h⟩
      cases b with
      | none=>exact no h (fun S2 K2 ha hk=>hin S2 K2 ha hk)
      | some b =>
        cases b <;> cases want
        · exact yes h (fun S2 K2 ha hk=>hin S2 K2 ha hk)
        · exact no h (fun S2 K2 ha hk=>hin S2 K2 ha hk)
        · exact no h (fun S2 K2 ha hk=>hin S2 K2 ha hk)
        · exact yes h (fun S2 K2 ha hk=>hin S2 K2 ha hk)
theorem Gk {S:St} {dst:Option Tmp} {v:AV} {m:Option St} {d:Nat} (h:dst≠some d):(jA S dst v m).t[d]?=S.t[d]?:=by
  unfold jA lI
  cases dst with
  | none=>cases m <;> rfl
  | some e =>
    have hne:e≠d:=fun he=>h (by rw [he])
    cases m <;> simp [fX,List.getElem?_set_ne hne]
theorem wI {S:St} {dst:Option Tmp} {v:AV}:kR S (jA S dst v none):=by
  unfold jA lI
  cases dst <;> exact ⟨rfl,rfl,rfl⟩
def wJ (pl:cm) (ops:Array Oper) (x y:Oper):Prop :=
  gi pl x=2→gi pl y≠2∧(gi pl y=1→jQ pl ops x y=true)
theorem uZ {pl:cm} {ops:Array Oper} {x y:Oper} (h:jQ pl ops x y=true):jQ pl ops y x=true:=by
  revert h
  unfold jQ
  generalize gj pl ops x=a
  generalize gj pl ops y=b
  intro h
  cases a with
  | none=>cases b with
    | none=>exact h
    | some b=>rfl
  | some a=>cases b with
    | none=>rfl
    | some b =>
      have h':(!(Nat.beq a b))=true:=h
      show (!(Nat.beq b a))=true
      cases hb:Nat.beq b a with
      | false=>rfl
      | true =>
        have:=Nat.eq_of_beq_eq_true hb
        subst this
        rw [hb] at h'
        cases h'
theorem BK {pl:cm} {ops:Array Oper} {x y:Oper} (h:vO pl ops x y=true):x.apart ops y=true∧wJ pl ops x y∧wJ pl ops y x∧CJ (gi pl x)=true∧CJ (gi pl y)=true:=by
  unfold vO at h
  simp only [Bool.and_eq_true] at h
  refine ⟨h.1,fun e=>⟨fun e2=>?_,fun e2=>?_⟩,fun e=>⟨fun e2=>?_,fun e2=>?_⟩,?_,?_⟩
  · have h2:=h.2
    rw [e,e2] at h2
    simp at h2
  · have h2:=h.2
    rw [e,e2] at h2
    exact h2
  · have h2:=h.2
    rw [e,e2] at h2
    simp at h2
  · have h2:=h.2
    rw [e,e2] at h2
    exact uZ h2
  · have h2:=h.2
    revert h2
    split <;> rename_i h3 h4 <;> intro h2 <;> first | (rw [h3]; rfl) | cases h2
  · have h2:=h.2
    revert h2
    split <;> rename_i h3 h4 <;> intro h2 <;> first | (rw [h4]; rfl) | cases h2
theorem E7 {S:St} {x y:Option Tmp} {v u:AV} {m n:Option St} (h:∀ d,x=some d→y≠some d) (hm:m=none∨n=none):jA (jA S x v m) y u n=jA (jA S y u n) x v m:=by
  cases x with
  | none=>cases y <;> rcases hm with rfl | rfl <;> first | rfl | (cases m <;> rfl) | (cases n <;> rfl)
  | some d =>
    cases y with
    | none=>rcases hm with rfl | rfl <;> first | (cases m <;> rfl) | (cases n <;> rfl)
    | some e =>
      have hne:d≠e:=fun he=>h d rfl (he▸rfl)
      have hs:(S.t.set d v).set e u=(S.t.set e u).set d v:=List.set_comm _ _ hne
      rcases hm with rfl | rfl
      · cases n <;> simp only [jA,lI,fX,hs]
      · cases m <;> simp only [jA,lI,fX,hs]
theorem Gl {S:St} {dst:Option Tmp} {v:AV} {m:Option St}:(jA S dst v m).l=match m with | none=>S.l | some M=>M.l:=by
  unfold jA
  rw [cX]
  cases m <;> rfl
theorem BL {pl:cm} {ops:Array Oper} {x y:Oper} {S:St} {v:AV} {m:Option St} (hk:uY pl ops x S m) (hc:wJ pl ops x y):uX pl ops y S (jA S x.dst v m):=by
  cases m with
  | none=>exact .of wI
  | some M =>
    have h2:gi pl x=2:=by
      cases Nat.decEq (gi pl x) 2 with
      | isTrue h=>exact h
      | isFalse h=>have:=hk.1 h; cases this
    obtain ⟨h3,h4⟩:=hc h2
    refine ⟨fun h1=>?_,fun h=>absurd h h3⟩
    have hap:=h4 h1
    have hkm:=hk.2 M rfl
    have hoM:(jA S x.dst v (some M)).o=M.o:=by unfold jA; rw [cY]; rfl
    revert hap hkm
    unfold jQ
    generalize gj pl ops x=sx
    generalize gj pl ops y=sy
    intro hap hkm
    cases sx with
    | some a=>cases sy with
      | some b =>
        show aN _ b=_
        rw [Gl]
        refine hkm.2 b (fun e=>?_)
        subst e
        have h':(!(Nat.beq b b))=true:=hap
        rw [show Nat.beq b b=true from Nat.beq_refl b] at h'
        cases h'
      | none =>
        show (jA S x.dst v (some M)).o=S.o
        rw [hoM]
        exact hkm.1
    | none=>cases sy with
      | some b =>
        show aN _ b=_
        rw [Gl]
        show aN M.l b=_
        rw [show M.l=S.l from hkm]
      | none=>cases hap
theorem uX.symm {pl:cm} {ops:Array Oper} {o:Oper} {S S2:St} (h:uX pl ops o S S2):uX pl ops o S2 S:=⟨fun h1=>(h.1 h1).symm,fun h2=>(h.2 h2).symm⟩
theorem uX.trans {pl:cm} {ops:Array Oper} {o:Oper} {S S2 S3:St} (h:uX pl ops o S S2) (k:uX pl ops o S2 S3):uX pl ops o S S3:=⟨fun h1=>(h.1 h1).trans (k.1 h1),fun h2=>(h.2 h2).trans (k.2 h2)⟩
theorem rT.of {site:Option Nat} {S S2 M:St} (h:kR S S2) (k:rT site S2 M):rT site S M:=by
  cases site with
  | some r =>
    obtain ⟨k1,k2⟩:=k
    refine ⟨k1.trans h.2.1,fun r' hr=>?_⟩
    rw [k2 r' hr,h.1]
  | none=>exact Eq.trans k h.1
theorem uY.after {pl:cm} {ops:Array Oper} {x y:Oper} {S:St} {v:AV} {m n:Option St} (hk:uY pl ops y (jA S x.dst v m) n) (hx:uY pl ops x S m) (hc:wJ pl ops x y):uY pl ops y S n:=by
  refine ⟨hk.1,fun M e=>?_⟩
  have h2:gi pl y=2:=by
    cases Nat.decEq (gi pl y) 2 with
    | isTrue h=>exact h
    | isFalse h=>have:=hk.1 h; rw [this] at e; cases e
  have hm:m=none:=hx.1 fun h=>(hc h).1 h2
  subst hm
  exact rT.of wI (hk.2 M e)
theorem uY.before {pl:cm} {ops:Array Oper} {x y:Oper} {S:St} {v:AV} {m n:Option St} (hx:uY pl ops x S m) (hy:uY pl ops y S n) (hc:wJ pl ops x y):uY pl ops x (jA S y.dst v n) m:=by
  refine ⟨hx.1,fun M e=>?_⟩
  have h2:gi pl x=2:=by
    cases Nat.decEq (gi pl x) 2 with
    | isTrue h=>exact h
    | isFalse h=>have:=hx.1 h; rw [this] at e; cases e
  have hn:n=none:=hy.1 fun h=>(hc h2).1 h
  subst hn
  exact rT.of wI.symm (hx.2 M e)
theorem I7 {C:Ctx} (hC:gU C) {pl:cm} {ops:Array Oper} {oi oj:Oper} {v:AV} {m:Option St} (hap:vO pl ops oi oj=true) {K:St→Prop} {S:St}
    (hy:Eff C pl ops oi S v m) (h:ag C pl ops oj (jA S oi.dst v m) K):ag C pl ops oj S fun S'=>Eff C pl ops oi S' v m∧K (jA S' oi.dst v m):=by
  obtain ⟨hap,hc1,hc2,_,hez⟩:=BK hap
  obtain ⟨h1,h2,h3⟩:=Oper.apart_spec hap
  obtain ⟨u,n,hj,hk⟩:=Gj hC hez h
  have hjk:uY pl ops oj S n:=hj.1.after hy.1 hc1
  refine hj.2 S (fun d hd=>(Gk (fun e=>h1 d e hd)).symm) (BL hy.1 hc1).symm _ ⟨⟨hy.1.before hjk hc1,fun S2 ha hm K2 hk2=>hy.2 S2 (fun d hd=>(ha d hd).trans (Gk (fun e=>h3 d e hd))) ((BL hjk hc2).trans hm) K2 hk2⟩,?_⟩
  rw [← E7 h2 ?_]
  · exact hk
  · by_cases h12:gi pl oi=2
    · exact .inr (hj.1.1 (hc1 h12).1)
    · exact .inl (hy.1.1 h12)
theorem wL {f:Nat→Edge→Nat} {acc:List Nat} {i:Nat} (hf:∀ s e,Nat.testBit (f s e) i=true→Nat.testBit s i=true∨(Region.binds .any e=true∧(e.on=i∨Nat.testBit (acc.getD e.on 0) i=true))):∀ (l:List Edge) (s:Nat),Nat.testBit (l.foldl f s) i=true →
    Nat.testBit s i=true∨∃ e∈l,Region.binds .any e=true∧(e.on=i∨Nat.testBit (acc.getD e.on 0) i=true)
  | [],s,h=>.inl h
  | e::l,s,h=>by
    rw [List.foldl_cons] at h
    rcases wL hf l _ h with h | ⟨e',he,h1,h2⟩
    · rcases hf _ _ h with h | ⟨h1,h2⟩
      · exact .inl h
      · exact .inr ⟨e,List.mem_cons_self,h1,h2⟩
    · exact .inr ⟨e',List.mem_cons_of_mem _ he,h1,h2⟩
theorem mO (o:Oper) (os:List Oper) (acc:List Nat):∃ b,cy (o::os) acc=cy os (acc++[b])∧∀ i,Nat.testBit b i=true→∃ e∈o.after,Region.binds .any e=true∧(e.on=i∨Nat.testBit (acc.getD e.on 0) i=true):=by
  refine ⟨_,rfl,fun i h=>?_⟩
  have hz:Nat.testBit 0 i=true→False:=fun h=>by simp at h
  refine (wL (acc:=acc) (fun s e h=>?_) _ _ h).elim (fun h=>(hz h).elim) (fun ⟨e,he,h1,h2⟩=>⟨e,by simpa using he,h1,h2⟩)
  split at h
  · rename_i hb
    have h':Nat.testBit (s ||| (2 ^ e.on ||| acc.getD e.on 0)) i=true:=h
    rw [Nat.testBit_or,Nat.testBit_or,Nat.testBit_two_pow] at h'
    simp only [Bool.or_eq_true,decide_eq_true_eq] at h'
    rcases h' with h' | h' | h'
    · exact .inl h'
    · exact .inr ⟨hb,.inl h'⟩
    · exact .inr ⟨hb,.inr h'⟩
  · exact .inl h
theorem qk:∀ (os:List Oper) (acc:List Nat),∃ l,cy os acc=acc++l
  | [],acc=>⟨[],by simp [cy]⟩
  | o::os,acc=>by
    obtain ⟨b,h1,_⟩:=mO o os acc
    obtain ⟨l,h⟩:=qk os (acc++[b])
    exact ⟨b::l,by rw [h1,h,List.append_assoc]; rfl⟩
theorem qm:∀ (os:List Oper) (acc:List Nat) (j:Nat) (o:Oper) (i:Nat),os[j]?=some o→Nat.testBit ((cy os acc).getD (acc.length + j) 0) i=true →
    ∃ e∈o.after,Region.binds .any e=true∧(e.on=i∨Nat.testBit ((cy os acc).getD e.on 0) i=true)
  | [],_,_,_,_,h,_=>by simp at h
  | o0::os,acc,0,o,i,h,hb=>by
    simp only [List.getElem?_cons_zero,Option.some.injEq] at h
    subst h
    obtain ⟨b,h1,h2⟩:=mO o0 os acc
    obtain ⟨l,hl⟩:=qk os (acc++[b])
    rw [h1,hl,List.append_assoc] at hb ⊢
    have e1:(acc++([b]++l)).getD (acc.length + 0) 0=b:=by
      simp [List.getD_eq_getElem?_getD]
    rw [e1] at hb
    obtain ⟨e,he,h3,h4⟩:=h2 i hb
    refine ⟨e,he,h3,h4.imp id (fun h=>?_)⟩
    by_cases hlt:e.on<acc.length
    · rw [List.getD_eq_getElem?_getD,List.getElem?_append_left hlt,← List.getD_eq_getElem?_getD]
      exact h
    · rw [List.getD_eq_getElem?_getD,List.getElem?_eq_none (by omega)] at h
      simp at h
  | o0::os,acc,j + 1,o,i,h,hb=>by
    obtain ⟨b,h1,h2⟩:=mO o0 os acc
    rw [h1] at hb ⊢
    refine qm os _ j o i (by simpa using h) ?_
    have:(acc++[b]).length + j=acc.length + (j + 1):=by simp; omega
    rw [this]
    exact hb
theorem waits {ops:Array Oper} {j i:Nat} {o:Oper} (hj:ops[j]?=some o) (h:Nat.testBit ((cy ops.toList []).getD j 0) i=true) :
    ∃ e∈o.after,Region.binds .any e=true∧(e.on=i∨Nat.testBit ((cy ops.toList []).getD e.on 0) i=true) :=
  qm ops.toList [] j o i (by simpa using hj) (by simpa using h)
def Closed (ops:Array Oper) (listed:Array Bool):Prop:=∀ j,listed.getD j false=true→∀ i,Nat.testBit ((cy ops.toList []).getD j 0) i=true→listed.getD i false=true
theorem Gm {listed:Array Bool} {i:Nat} (h:listed.getD i true=false):listed.getD i false=true→False:=by
  intro h2
  simp only [Array.getD_eq_getD_getElem?] at h h2
  cases hh:listed[i]? with
  | none=>rw [hh] at h; simp at h
  | some b=>rw [hh] at h h2; simp at h h2; rw [h] at h2; cases h2
theorem Closed.ready {ops:Array Oper} {listed:Array Bool} (hc:Closed ops listed) {j:Nat} (hj:j∈Region.ready .any ops listed) {i:Nat} (hb:Nat.testBit ((cy ops.toList []).getD j 0) i=true):listed.getD i false=true:=by
  obtain ⟨_,o,ho,hall⟩:=mem_ready.1 hj
  obtain ⟨e,he,h1,h2⟩:=waits ho hb
  rcases h2 with h2 | h2
  · rw [← h2]; exact hall e he h1
  · exact hc _ (hall e he h1) _ h2
theorem wM {listed:Array Bool} {i j:Nat} (h:listed.getD i false=true):(listed.setIfInBounds j true).getD i false=true:=by
  by_cases hij:j=i
  · subst hij
    simp only [Array.getD_eq_getD_getElem?] at *
    cases hh:listed[j]? with
    | none=>rw [hh] at h; simp at h
    | some b =>
      have:=(Array.getElem?_eq_some_iff.1 hh).1
      simp [this]
  · rw [getD_set_ne false hij]; exact h
theorem Closed.set {ops:Array Oper} {listed:Array Bool} (hc:Closed ops listed) {j:Nat} (hj:j∈Region.ready .any ops listed):Closed ops (listed.setIfInBounds j true):=by
  intro k hk i hb
  by_cases hjk:j=k
  · subst hjk
    exact wM (hc.ready hj hb)
  · rw [getD_set_ne false hjk] at hk
    exact wM (hc k hk i hb)
theorem pw {ops:Array Oper} {listed:Array Bool} {i j:Nat} (hi:i∈Region.ready .any ops listed) (hne:j≠i):i∈Region.ready .any ops (listed.setIfInBounds j true):=by
  obtain ⟨h1,o,ho,h2⟩:=mem_ready.1 hi
  exact mem_ready.2 ⟨by rw [getD_set_ne true hne]; exact h1,o,ho,fun e he hb=>wM (h2 e he hb)⟩
def Gn (C:Ctx) (pl:cm) (ops:Array Oper) (i:Nat) (K:St→Prop) (S:St):Prop :=
  match ops[i]? with
  | none=>K S
  | some o=>ag C pl ops o S K
def BM (C:Ctx) (pl:cm) (ops:Array Oper) (Q:St→Prop):Nat→Array Bool→St→Prop
  | 0,listed,S=>Region.ready .any ops listed=[]∧Q S
  | fuel + 1,listed,S=>(Region.ready .any ops listed=[]→Q S)∧∀ i∈Region.ready .any ops listed,Gn C pl ops i (BM C pl ops Q fuel (listed.setIfInBounds i true)) S
theorem D6 {C:Ctx} (hC:gU C) {pl:cm} {ops:Array Oper} {o:Oper} {S:St} {K K':St→Prop} (h:ag C pl ops o S K) (hk:∀ S,K S→K' S):ag C pl ops o S K':=by
  obtain ⟨S',h1,h2⟩:=Gc hC _ h
  exact h2 K' (hk _ h1)
def Fr (pl:cm) (ops:Array Oper) (listed:Array Bool) (i:Nat) (oi:Oper):Prop:=∀ j oj,ops[j]?=some oj→j≠i→listed.getD j true=false→Nat.testBit ((cy ops.toList []).getD j 0) i=false→vO pl ops oi oj=true
theorem Db {C:Ctx} (hC:gU C) {pl:cm} {ops:Array Oper} {Q:St→Prop} {i:Nat} {oi:Oper} {v:AV} {m:Option St} (hi:ops[i]?=some oi) :
    ∀ (fuel:Nat) (listed:Array Bool) (S:St),Closed ops listed→Fr pl ops listed i oi→i∈Region.ready .any ops listed→Eff C pl ops oi S v m →
      BM C pl ops Q fuel (listed.setIfInBounds i true) (jA S oi.dst v m)→BM C pl ops Q (fuel + 1) listed S:=by
  have here:∀ {S:St} {K:St→Prop},Eff C pl ops oi S v m→K (jA S oi.dst v m)→Gn C pl ops i K S:=by
    intro S K hy hk
    unfold Gn
    rw [hi]
    exact hy.2 S (fun _ _=>rfl) (.of (kR.refl S)) K hk
  intro fuel
  induction fuel with
  | zero =>
    intro listed S _ _ hr hy H
    refine ⟨fun h=>(by rw [h] at hr; cases hr),fun j hj=>?_⟩
    by_cases hji:j=i
    · subst hji; exact here hy H
    · have:=pw hj (fun e=>hji e.symm)
      rw [H.1] at this
      cases this
  | succ fuel ih =>
    intro listed S hcl hfree hr hy H
    refine ⟨fun h=>(by rw [h] at hr; cases hr),fun j hj=>?_⟩
    by_cases hji:j=i
    · subst hji; exact here hy H
    · have h1:=H.2 j (pw hj (fun e=>hji e.symm))
      obtain ⟨hjun,oj,hoj,hall⟩:=mem_ready.1 hj
      have hnot:Nat.testBit ((cy ops.toList []).getD j 0) i=false:=by
        cases hb:Nat.testBit ((cy ops.toList []).getD j 0) i with
        | false=>rfl
        | true=>exact (Gm (mem_ready.1 hr).1 (hcl.ready hj hb)).elim
      unfold Gn at h1 ⊢
      rw [hoj] at h1 ⊢
      have h2:=I7 hC (hfree j oj hoj hji hjun hnot) hy h1
      have hfree':Fr pl ops (listed.setIfInBounds j true) i oi:=fun k ok hk hki hun hno=>by
        refine hfree k ok hk hki ?_ hno
        by_cases hjk:j=k
        · subst hjk; exact hjun
        · rw [getD_set_ne true hjk] at hun; exact hun
      refine D6 hC h2 (fun S' h3=>ih (listed.setIfInBounds j true) S' (hcl.set hj) hfree' (pw hr (fun e=>hji e)) h3.1 ?_)
      rw [Array.setIfInBounds_comm _ _ hji]
      exact h3.2
theorem Dc {pl:cm} {ops:Array Oper} {listed:Array Bool} {i:Nat} {oi:Oper} (hi:ops[i]?=some oi) (h:DW pl ops (cy ops.toList []) listed i=true):Fr pl ops listed i oi:=by
  intro j oj hj hji hun hno
  unfold DW at h
  rw [hi] at h
  have hlt:j<ops.size:=(Array.getElem?_eq_some_iff.1 hj).1
  have:=List.all_eq_true.1 h j (List.mem_range.2 hlt)
  rw [hj] at this
  simp only [hun,hno,Bool.or_eq_true,Bool.or_false] at this
  rcases this with h | h
  · exact absurd (Nat.eq_of_beq_eq_true h) hji
  · simpa using h
theorem I8 {x y:Value} (h:LD x y=true):x=y:=by
  unfold LD at h
  split at h
  · simp at h; rw [h]
  · simp at h; rw [h.1,h.2]
  · rename_i a b
    have h':=eq_of_beq h
    congr 1
    have:a.data=b.data:=Array.ext' h'
    cases a; cases b; simp_all
  · cases h
theorem I9 {x y:Key} (h:LF x y=true):x=y:=by
  unfold LF at h
  split at h
  · rw [Nat.eq_of_beq_eq_true h]
  · rw [Nat.eq_of_beq_eq_true h]
  · cases h
theorem iC {α:Type} {f:α→α→Bool} (hf:∀ x y,f x y=true→x=y):∀ {xs ys:List α},A4 f xs ys=true→xs=ys
  | [],[],_=>rfl
  | x::xs,y::ys,h=>by
    unfold A4 at h
    simp only [Bool.and_eq_true] at h
    rw [hf x y h.1,iC hf h.2]
  | [],_::_,h=>by cases h
  | _::_,[],h=>by cases h
theorem tj:∀ (n:Nat) (x y:AV),EJ n x y=true→x=y
  | 0,_,_,h=>by cases h
  | n + 1,x,y,h=>by
    have ih:=tj n
    have nb:∀ {a b:Nat},Nat.beq a b=true→a=b:=fun h=>Nat.eq_of_beq_eq_true h
    unfold EJ at h
    split at h <;> first | rfl | (cases h; done) | skip
    · rw [I8 h]
    · simp only [Bool.and_eq_true] at h; rw [I9 h.1.1,nb h.1.2,nb h.2]
    · simp only [Bool.and_eq_true] at h; rw [iC ih h.1,nb h.2]
    · rw [iC (fun _ _ h=>iC ih h) h]
    · rw [nb h]
    · simp only [Bool.and_eq_true] at h; rw [nb h.1.1.1,nb h.1.1.2,nb h.1.2,nb h.2]
    · rw [nb h]
    · simp only [Bool.and_eq_true] at h; rw [nb h.1.1,iC ih h.1.2,iC ih h.2]
    · rw [iC ih h]
    · rw [iC ih h]
theorem HK (x y:Ob) (h:IY x y=true):x=y:=by
  unfold IY at h
  split at h
  · simp only [Bool.and_eq_true,beq_iff_eq] at h
    rw [h.1.1,Nat.eq_of_beq_eq_true h.1.2,iC (fun _ _ h=>iC (tj 8) h) h.2]
  · simp only [Bool.and_eq_true,beq_iff_eq] at h
    rw [h.1,iC (fun (x y:AV×AV) h=>by
      simp only [Bool.and_eq_true] at h
      exact Prod.ext (tj 8 _ _ h.1) (tj 8 _ _ h.2)) h.2]
  · rfl
  · cases h
theorem HL {S S':St} (h:IZ S S'=true):S=S':=by
  unfold IZ at h
  simp only [Bool.and_eq_true] at h
  obtain ⟨t,l,o,b⟩:=S
  obtain ⟨t',l',o',b'⟩:=S'
  simp only at h
  rw [iC (tj 8) h.1.1.1,iC (fun (x y:Nat×List AV) h=>by
    simp only [Bool.and_eq_true] at h
    exact Prod.ext (Nat.eq_of_beq_eq_true h.1) (iC (tj 8) h.2)) h.1.1.2,iC HK h.1.2,Nat.eq_of_beq_eq_true h.2]
theorem E8 {S2 S1:St} {X:Prop} (h:tY S2 S1 X):S2=S1∧X:=by
  unfold tY at h
  split at h
  · rename_i he; exact ⟨HL he,h⟩
  · exact h
theorem BN {go:Nat→(St→Prop)→Prop} (hg:∀ i,aC (go i)):∀ {is:List Nat} {S1:St} {X:Prop},CK go is S1 X→X∧∀ i∈is,go i fun S2=>S2=S1
  | [],_,_,h=>⟨h,fun i hi=>by cases hi⟩
  | i::is,S1,X,h=>by
    obtain ⟨S2,h1,h2⟩:=hg i _ h
    obtain ⟨h3,h4⟩:=E8 h1
    obtain ⟨h5,h6⟩:=BN hg h4
    refine ⟨h5,fun k hk=>?_⟩
    rcases List.mem_cons.1 hk with rfl | hk
    · exact h2 _ h3
    · exact h6 k hk
theorem qn {pl:cm} {ops:Array Oper} {ws:List Nat} {listed:Array Bool}:∀ {is:List Nat} {k:Nat},oS pl ops ws listed is=some k→k∈is∧DW pl ops ws listed k=true∧∃ o,ops[k]?=some o∧CJ (gi pl o)=true
  | [],_,h=>by cases h
  | i::is,k,h=>by
    unfold oS at h
    split at h
    · rename_i hb
      cases h
      simp only [Bool.and_eq_true] at hb
      refine ⟨List.mem_cons_self,hb.2,?_⟩
      have h1:=hb.1
      split at h1
      · rename_i o ho; exact ⟨o,ho,h1⟩
      · cases h1
    · obtain ⟨h1,h2⟩:=qn h
      exact ⟨List.mem_cons_of_mem _ h1,h2⟩
theorem wN {C:Ctx} {pl:cm} {ops:Array Oper} {i:Nat} {S:St} {K:St→Prop} (h:yF C pl ops i S K):Gn C pl ops i K S:=by
  unfold yF at h
  unfold Gn
  split at h
  · exact False.elim h
  · rename_i o ho
    rw [ho]
    exact h
theorem Gp {C:Ctx} (hC:gU C) {pl:cm} {ops:Array Oper} {i:Nat} {S:St} {K K':St→Prop} (h:Gn C pl ops i K S) (hk:∀ S,K S→K' S):Gn C pl ops i K' S:=by
  unfold Gn at h ⊢
  split
  · rename_i ho; rw [ho] at h; exact hk _ h
  · rename_i o ho; rw [ho] at h; exact D6 hC h hk
theorem rU {C:Ctx} (hC:gU C) {pl:cm} {ops:Array Oper} {Q:St→Prop}:∀ (n:Nat) (listed:Array Bool) (S:St),Closed ops listed→ku C pl ops (cy ops.toList []) n listed S Q→BM C pl ops Q n listed S
  | 0,listed,S,_,h=>by
    unfold ku at h
    split at h
    · rename_i he; exact ⟨he,h⟩
    · exact False.elim h
  | n + 1,listed,S,hcl,h=>by
    unfold ku at h
    split at h
    · rename_i he
      exact ⟨fun _=>h,fun i hi=>by rw [he] at hi; cases hi⟩
    · rename_i r rs he
      split at h
      · rename_i k hk
        obtain ⟨hm,hf,o,ho,hez⟩:=qn hk
        rw [← he] at hm
        have h1:=wN h
        unfold Gn at h1
        rw [ho] at h1
        obtain ⟨v,m,hy,hK⟩:=Gj hC hez h1
        exact Db hC ho n listed S hcl (Dc ho hf) hm hy (rU hC n _ _ (hcl.set hm) hK)
      · have hdet:∀ i,aC (fun K':St→Prop=>yF C pl ops i S fun S'=>ku C pl ops (cy ops.toList []) n (listed.setIfInBounds i true) S' K'):=fun i=>aC.bind (gp hC) (fun S'=>f5 hC n _ S')
        obtain ⟨S1,h1,h2⟩:=hdet r _ h
        obtain ⟨h3,h4⟩:=BN hdet h1
        refine ⟨fun h0=>(by rw [he] at h0; cases h0),fun i hi=>?_⟩
        have hi':=hi
        rw [he] at hi'
        have hgo:yF C pl ops i S fun S'=>ku C pl ops (cy ops.toList []) n (listed.setIfInBounds i true) S' Q:=by
          rcases List.mem_cons.1 hi' with rfl | hi'
          · exact h2 Q h3
          · obtain ⟨S2,h5,h6⟩:=hdet i _ (h4 i hi')
            exact h6 Q (by rw [h5]; exact h3)
        exact Gp hC (wN hgo) (fun S' h=>rU hC n _ S' (hcl.set hi) h)
open Go.RowKit (Below)
def ZR (P:Program) (e:TypeId) (cs:List AV):Prop:=∃ i z,P.info? e=some i∧i.zero=some z∧∀ E,cG E cs z.cells.toList
theorem Dd (k:Key) (c:Value):dD 4 k (vC c)=vC c:=by
  unfold vC
  split <;> rfl
theorem wO {P:Program} {e:TypeId} {k:List AV→Prop} (h:dk P e k):∃ cs,ZR P e cs∧k cs∧∀ k:Key,cs.map (dD 4 k)=cs:=by
  unfold dk at h
  split at h
  · rename_i i hi
    split at h
    · rename_i z hz
      obtain ⟨h1,h2⟩:=ab h
      rw [iP] at h2
      obtain ⟨i',z',cs,hi',hz',_,he,hcs⟩:=dU (P:=P) (e:=e) (k:=fun cs=>cs=z.cells.toList.map vC) (by
        unfold dk
        rw [hi]
        dsimp only
        rw [hz]
        dsimp only
        refine ar h1 ?_
        rw [iP])
      subst he
      refine ⟨_,⟨i',z',hi',hz',hcs⟩,h2,fun k=>?_⟩
      rw [List.map_map]
      exact List.map_congr_left fun c _=>Dd k c
    · exact False.elim h
  · exact False.elim h
theorem aj.drawn {G:Gh} {p:Nat→Option (List AV)} {E:Env} {S:St} {w:World} {n:Nat} (h:aj G p E S w):aj G p E S { w with drawn:=n } :=
  ⟨h.hp,h.os,h.tape,h.output,h.size,h.keep,h.F0,h.Flt,h.Fnew,h.own,h.inj,h.loc,h.obj,h.old,h.bl,h.szs,h.pk,h.ow⟩
theorem im.congr {p p':Nat→Option (List AV)} {E:Env} {x:Option (List AV)} {d:Nat} (h:im p E x d) (hp:p' d=p d):im p' E x d:=by
  unfold im at *
  cases x with
  | none=>exact h
  | some row =>
    rcases h with h | ⟨h1,h2,h3⟩
    · exact .inl h
    · exact .inr ⟨h1,hp.trans h2,h3⟩
def lU (o:Oper) (p:Nat→Option (List AV)):Nat→Option (List AV) :=
  match o.op,o.dst with
  | .alloc _,some d=>fun x=>if x=d then none else p x
  | _,_=>p
theorem lV {o:Oper} {p:Nat→Option (List AV)} (h:∀ e,o.op≠.alloc e):lU o p=p:=by
  unfold lU
  split
  · rename_i e d ho _
    exact (h _ ho).elim
  · rfl
theorem nL {o:Oper} {p:Nat→Option (List AV)} {e:TypeId} {d:Nat} (h:o.op=.alloc e) (hd:o.dst=some d):lU o p=fun x=>if x=d then none else p x:=by
  unfold lU
  rw [h,hd]
section
variable {G:Gh} {p:Nat→Option (List AV)} {E:Env} {S:St} {w:World} {C:Ctx} {pl:cm} {o:Oper} {a:Act} {K:St→Prop}
theorem Ak {d:Nat} {e:TypeId} {cs:List AV} (hM:aj G p E S w) (ht:TR E S.t a) (ho:o.op=.alloc e) (hd:o.dst=some d) (hp:p d=some cs) (hz:ZR C.P e cs) (hpos:0<cs.length)
    (h:K (lI S (some d) (.ptr (.L d) 0 0))) (next:Act→World→Prop) (Q:Exit→Act→World→Prop)
    (hn:∀ S' E' a' w',K S'→aj G (lU o p) E' S' w'→TR E' S'.t a'→next a' w'):o.wp C.P a w next Q:=by
  obtain ⟨i,z,hi,hz,hcs⟩:=hz
  obtain ⟨hmu,hrow⟩:=hM.pk d cs hp
  have hrun:(execOp a.eval o).run C.P w=.ok (.value (.pointer (some ⟨w.heap.size,0,none⟩))) { w with heap:=w.heap.push (.cells z.cells e) }:=by
    simp [execOp,ho,Instr.alloc,dr hi hz,qN]
  refine eb hrun ?_
  have arr:∀ {E1:Env},cG E1 cs z.cells.toList→cQ E1 (w.heap.push (.cells z.cells e)) [cs] w.heap.size 0 cs.length:=by
    intro E1 hcs1
    refine cQ.of_rows hpos (fun r hr=>by simp at hr; subst hr; rfl) (eB w _) (by have:=hcs1.1; simp at this; simp; omega) (fun i row r c h1 h2=>?_)
    cases i with
    | zero =>
      simp at h1
      subst h1
      obtain ⟨u,hu,hv⟩:=hcs1.get h2
      exact ⟨u,by simpa using hu,hv⟩
    | succ i=>simp at h1
  rw [nL ho hd] at hn
  obtain ⟨hle,hS⟩:=hM.newkey' (p':=fun x=>if x=d then none else p x) (ob:=.cells z.cells e) (key:=.L d) (sz:=cs.length) (n:=1) (fun x hx=>if_neg fun h=>hx (by rw [h])) (fun x hx=>by cases hx; exact if_pos rfl) hmu
    (M':=S) (fun _ _=>rfl) (fun _ _=>rfl) rfl hM.bl (fun id he=>by cases he)
    (fun e he hle=>by
      cases he
      rw [hrow]
      refine .inl ⟨w.heap.size,?_,arr (hcs _)⟩
      show aG E.mu (.L d) _ (.L d)=_
      unfold aG
      rw [if_pos rfl])
    (fun id he=>by cases he) CP
  refine hn _ _ _ _ h (hS.congr cX cY dl) ?_
  have:=(ht.mono hle).put (S:=S) (dst:=o.dst) (c:=.ptr (.L d) 0 0) (u:=.pointer (some ⟨w.heap.size,0,none⟩)) (by
    have hmu':aG E.mu (.L d) (.blk w.heap.size 0 cs.length 1) (.L d)=some (.blk w.heap.size 0 cs.length 1):=by unfold aG; rw [if_pos rfl]
    have:=VR.ptr (E:=⟨E.F,aG E.mu (.L d) (.blk w.heap.size 0 cs.length 1),w.heap.push (.cells z.cells e)⟩) 0 0 rfl hmu'
    simpa using this)
  rw [hd] at this ⊢
  exact this
theorem E9 {e:TypeId} (ho:o.op=.alloc e):gi pl o=4:=by
  have hw:gB pl o=false:=by unfold gB; rw [ho]
  unfold gi
  rw [hw]
  dsimp only
  unfold yE
  rw [ho]
theorem BO {C:Ctx} (hC:eV C) {pl:cm} {o:Oper} {S:St} {K:St→Prop} {G:Gh} {pd:Nat→Option (List AV)} {E:Env} {w:World} {a:Act} {c:Call} (hM:aj G pd E S w) (ht:TR E S.t a) (ho:o.op=.call c) (h:qe C pl o S K):dS C.P G pd o a w K:=by
  unfold qe at h
  obtain ⟨vs,h,hv⟩:=dM ht h
  have hw:gB pl o=false:=by unfold gB; rw [ho]
  unfold nu at h
  rw [hw] at h
  dsimp only at h
  unfold mm at h
  rw [ho] at h hv
  split at h
  · rename_i he; cases he
  · rename_i c' fid first cap as he
    cases he
    split at h
    · rename_i x hcal
      obtain ⟨h1,h⟩:=ab h
      simp only [Bool.and_eq_true] at h1
      have hv:cG E (.fn fid first cap::as) (a.eval x::c.args.toList.map a.eval):=by simpa [Op.operands,Call.operands,hcal] using hv
      obtain ⟨u,us,e,hf,has⟩:=hv.uncons
      cases e
      obtain ⟨g1,g2⟩:=hC.scall _ _ _ _ h
      refine uu hM ht ho hcal hf has h1.2 ⟨g1,fun E w us hM hg hv=>(g2 E w us hM hg hv).mono ?_⟩
      rintro e w' ⟨v,r,o',E',hk,rest⟩
      obtain ⟨h4,h5⟩:=ab hk
      refine ⟨v,r,o',E',?_,rest⟩
      have h4:cx S.o o' 0=[]:=List.isEmpty_iff.1 h4
      show kK (cx S.o o' 0) S.t S.l _
      rw [h4]
      exact h5
    · exact h.elim
  · rename_i hne
    unfold yD at h
    rw [ho] at h
    exact h.elim
theorem BP {C:Ctx} (hC:eV C) {pl:cm} {o:Oper} {S:St} {K:St→Prop} {G:Gh} {pd:Nat→Option (List AV)} {E:Env} {w:World} {a:Act} (hM:aj G pd E S w) (ht:TR E S.t a) (h:qe C pl o S K):dS C.P G pd o a w K:=by
  cases hw:gB pl o with
  | true =>
    refine wd (pl:=pl) hM ht ?_
    unfold qe at h
    unfold zP
    have e:∀ vs M k,nu C pl o vs M k=l9 C.P pl o vs M k:=fun vs M k=>by unfold nu; rw [hw]
    simp only [e] at h
    exact h
  | false =>
  have e:∀ vs M k,nu C pl o vs M k=mm C o vs M k:=fun vs M k=>by unfold nu; rw [hw]
  by_cases hmk:zh pl o
  · rcases hmk with (⟨t,X,Y,ho⟩ | ⟨c,ho⟩) | hmk
    rotate_left
    · exact BO hC hM ht ho h
    · rw [hw] at hmk; cases hmk
    refine od hM ht ho ?_
    unfold qe at h
    simp only [e] at h
    rw [ho] at h
    have h':dx S X fun l=>dx S Y fun c=>cC C.P t l c (dE S) fun M' r=>b_ o.dst r (fX S M') K:=by
      have h:dx S X fun l=>dx S Y fun c=>mm C o [l,c] (dE S) fun r M=>b_ o.dst r (fX S M) K:=h
      obtain ⟨l,h1,h2⟩:=cJ _ h
      obtain ⟨c,h3,h4⟩:=cJ _ h1
      refine h2 (fun l=>dx S Y fun c=>cC C.P t l c (dE S) fun M' r=>b_ o.dst r (fX S M') K) (h4 (fun c=>cC C.P t l c (dE S) fun M' r=>b_ o.dst r (fX S M') K) ?_)
      unfold mm at h3
      rw [ho] at h3
      exact h3
    obtain ⟨l,h1,h2⟩:=cJ _ h'
    obtain ⟨c,h3,h4⟩:=cJ _ h1
    refine h2 (fun l=>dx S Y fun c=>cC C.P t l c S fun S' r=>b_ o.dst r S' K) (h4 (fun c=>cC C.P t l c S fun S' r=>b_ o.dst r S' K) ?_)
    unfold cC at h3 ⊢
    exact h3
  · refine wj hM ht ?_
    unfold qe at h
    unfold EH
    obtain ⟨vs,h1,h2⟩:=bm _ h
    refine h2 (fun vs=>yD C o vs (dE S) fun r M=>b_ o.dst r (fX S M) K) ?_
    rw [q7 hmk] at h1
    exact h1
theorem E_ (hC:eV C) (hM:aj G p E S w) (ht:TR E S.t a) (hA:∀ e d,o.op=.alloc e→o.dst=some d→∃ cs,p d=some cs∧0<cs.length∧ZR C.P e cs) (h:xK C pl o S K) (next:Act→World→Prop) (Q:Exit→Act→World→Prop)
    (hn:∀ S' E' a' w',K S'→aj G (lU o p) E' S' w'→TR E' S'.t a'→next a' w'):o.wp C.P a w next Q:=by
  by_cases hal:∃ e,o.op=.alloc e
  · obtain ⟨e,ho⟩:=hal
    unfold xK at h
    rw [E9 ho] at h
    have h':match o.dst with
      | some d=>b_ o.dst (.ptr (.L d) 0 0) S K
      | none=>ah 217:=h
    split at h'
    · rename_i d hd
      obtain ⟨cs,h3,h4,h5⟩:=hA e d ho hd
      rw [aJ,hd] at h'
      exact Ak hM ht ho hd h3 h5 h4 h' next Q hn
    · exact False.elim h'
  · rw [lV (fun e he=>hal ⟨e,he⟩)] at hn
    unfold xK at h
    split at h
    · exact wh hM ht h next Q hn
    · exact wi hC hM ht h next Q hn
    · exact BP hC hM ht h next Q hn
    · rename_i hc
      exfalso
      unfold gi at hc
      rw [zj (by unfold gi; rw [hc]; decide)] at hc
      dsimp only at hc
      unfold yE at hc
      split at hc
      · split at hc <;> cases hc
      · rename_i e ho; exact hal ⟨e,ho⟩
      · cases hc
      · split at hc
        · split at hc
          · cases hc
          · split at hc <;> cases hc
        · cases hc
        · split at hc <;> cases hc
        · unfold FX at hc
          split at hc <;> try (cases hc; done)
          all_goals (split at hc <;> cases hc)
      · unfold FX at hc
        split at hc <;> try (cases hc; done)
        all_goals (split at hc <;> cases hc)
    · exact CU hM ht h next Q hn
    · split at h
      · exact False.elim h
      · rename_i hb
        exact yX hC (fun he=>by rw [hb] at he; cases he) hM ht h next Q hn
end
def Inv (P:Program) (p:Nat→Option (List AV)) (ops:Array Oper) (listed:Array Bool):Prop :=
  ∀ (i:Nat) (o:Oper) (e:TypeId) (d:Nat),ops[i]?=some o→o.op=.alloc e→o.dst=some d→listed.getD i true=false→∃ cs,p d=some cs∧0<cs.length∧ZR P e cs
def Al (ops:Array Oper):Prop:=∀ (i i':Nat) (o o':Oper) (e e':TypeId) (d:Nat),ops[i]?=some o→ops[i']?=some o'→o.op=.alloc e→o'.op=.alloc e'→o.dst=some d→o'.dst=some d→i=i'
theorem De {listed:Array Bool} {i:Nat}:(listed.setIfInBounds i true).getD i true=true:=by
  simp only [Array.getD_eq_getD_getElem?,Array.getElem?_setIfInBounds,if_pos]
  split <;> rfl
theorem Inv.step {P:Program} {p:Nat→Option (List AV)} {ops:Array Oper} {listed:Array Bool} {i:Nat} {o:Oper} (h:Inv P p ops listed) (hap:Al ops) (hi:ops[i]?=some o) :
    Inv P (lU o p) ops (listed.setIfInBounds i true):=by
  intro j oj e d hj hoj hdj hjun
  have hij:i≠j:=fun he=>by subst he; rw [De] at hjun; cases hjun
  rw [getD_set_ne true hij] at hjun
  obtain ⟨cs,h1,h2⟩:=h j oj e d hj hoj hdj hjun
  refine ⟨cs,?_,h2⟩
  by_cases hal:∃ e,o.op=.alloc e
  · obtain ⟨e',ho⟩:=hal
    cases hd:o.dst with
    | none =>
      unfold lU
      rw [ho,hd]
      exact h1
    | some d' =>
      rw [nL ho hd]
      show (if d=d' then none else p d)=_
      rw [if_neg (fun he=>by subst he; exact hij (hap i j o oj e' e d hi hj ho hoj hd hdj))]
      exact h1
  · rw [lV (fun e he=>hal ⟨e,he⟩)]
    exact h1
theorem Df {o:Oper} {p:Nat→Option (List AV)} {d:Nat} (h:lU o p d≠none):p d≠none:=by
  by_cases hal:∃ e,o.op=.alloc e
  · obtain ⟨e',ho⟩:=hal
    cases hd:o.dst with
    | none =>
      unfold lU at h
      rw [ho,hd] at h
      exact h
    | some d' =>
      rw [nL ho hd] at h
      intro hn
      apply h
      show (if d=d' then none else p d)=none
      split
      · rfl
      · exact hn
  · rw [lV (fun e he=>hal ⟨e,he⟩)] at h
    exact h
def Q0 (Q:Exit→Act→World→Prop) (e:Exit) (a:Act) (w:World):Prop:=e=.normal∧Q .normal a w
theorem Kf {P:Program} {o:Oper} {a:Act} {w:World} {next:Act→World→Prop} {Q:Exit→Act→World→Prop} (h:o.wp P a w next (Q0 Q)):o.wp P a w next Q:=by
  unfold Oper.wp at *
  revert h
  generalize (execOp a.eval o).run P w=x
  intro h
  cases x with
  | ok x w' =>
    cases x with
    | enter f args=>exact Calls.mono h (fun e w'' he=>by
        cases e with
        | returned v=>exact he
        | panicked c=>exact absurd he.1 (fun h=>by cases h)
        | outgrown=>obtain ⟨_,_,h,_⟩:=he; cases h)
    | _=>exact h
  | halt x w' =>
    cases x with
    | panic v=>exact absurd h.1 (fun h=>by cases h)
    | _=>exact h
theorem Gq {ops:Array Oper} (h:Lv ops=true):Region.noSelect ops=true∧∀ (i:Nat) (o:Oper),ops[i]?=some o→∀ c,o.op≠.defer c:=by
  unfold Lv at h
  rw [Bool.and_eq_true] at h
  refine ⟨h.1,fun i o ho c hc=>?_⟩
  have:=List.all_eq_true.1 h.2 o (by rw [Array.mem_toList_iff]; exact Array.mem_of_getElem? ho)
  rw [hc] at this
  cases this
theorem rV {P:Program} {rr:Option Nat} {ops:Array Oper} {Q:Exit→Act→World→Prop} (hnd:∀ (i:Nat) (o:Oper),ops[i]?=some o→∀ c,o.op≠.defer c) :
    ∀ (fuel:Nat) (listed:Array Bool) (a:Act) (w:World),wpAny P .any ops (Q0 Q) fuel listed a w→wpAnyIn (rd rr) 0 P .any ops Q fuel listed a w
  | 0,_,_,_,h=>⟨h.1,h.2.2⟩
  | fuel + 1,listed,a,w,h=>by
    refine ⟨fun h0=>(h.1 h0).2,fun i hi=>?_⟩
    have h1:=h.2 i hi
    unfold wpOpIn
    unfold wpOp at h1
    split at h1
    · rename_i ho
      rw [ho]
      exact rV hnd fuel _ _ _ h1
    · rename_i o ho
      rw [ho]
      dsimp only
      split at h1
      · rename_i hw
        rw [if_pos hw]
        rcases h1 with h1 | ⟨_,_,_,h1,_⟩
        · exact yY (hnd i o ho) (Kf (Oper.wp_mono (fun a w h=>rV hnd fuel _ _ _ h) h1))
        · cases h1
      · rename_i hw
        rw [if_neg hw]
        exact ⟨fun _ _=>trivial,rV hnd fuel _ _ _ h1⟩
theorem nM {C:Ctx} (hC:eV C) {pl:cm} {ops:Array Oper} {G:Gh} {A:Nat→Prop} {Q:St→Prop} {Qc:Exit→Act→World→Prop} (hap:Al ops) (hg:∀ (i:Nat) (o:Oper) (e:TypeId),ops[i]?=some o→o.op=.alloc e→o.guard=none)
    (hQ:∀ p S' E' a' w',(∀ d,p d≠none→A d)→Q S'→aj G p E' S' w'→TR E' S'.t a'→Qc .normal a' w') :
    ∀ (fuel:Nat) (listed:Array Bool) (p:Nat→Option (List AV)) (S:St) (E:Env) (a:Act) (w:World),(∀ d,p d≠none→A d)→aj G p E S w→TR E S.t a→Inv C.P p ops listed→BM C pl ops Q fuel listed S→wpAny C.P .any ops Qc fuel listed a w
  | 0,_,_,_,_,_,_,hA,hM,ht,_,h=>⟨h.1,hQ _ _ _ _ _ hA h.2 hM ht⟩
  | fuel + 1,listed,p,S,E,a,w,hA,hM,ht,hI,h=>by
    refine ⟨fun h0=>hQ _ _ _ _ _ hA (h.1 h0) hM ht,fun i hi=>?_⟩
    have h1:=h.2 i hi
    obtain ⟨hun,o,ho,_⟩:=mem_ready.1 hi
    unfold Gn at h1
    unfold wpOp
    rw [ho] at h1 ⊢
    dsimp only at h1 ⊢
    have goon:∀ S' E' a' w',BM C pl ops Q fuel (listed.setIfInBounds i true) S'→aj G (lU o p) E' S' w'→TR E' S'.t a'→wpAny C.P .any ops Qc fuel (listed.setIfInBounds i true) a' w' :=
      fun S' E' a' w' hk hS htr=>nM hC hap hg hQ fuel _ _ S' E' a' w' (fun d hd=>hA d (Df hd)) hS htr (hI.step hap ho) hk
    have step:∀ {S1:St},aj G p E S1 w→TR E S1.t a→qF C pl ops o S1 (BM C pl ops Q fuel (listed.setIfInBounds i true))→Region.wanted o (yielded ops a.tmps)=true→(if Region.wanted o (yielded ops a.tmps) then o.wp C.P a w (wpAny C.P .any ops Qc fuel (listed.setIfInBounds i true)) Qc∨(o.asks C.P a w∧LetsOut Qc) else wpAny C.P .any ops Qc fuel (listed.setIfInBounds i true) (a.put o.dst undef) w):=by
      intro S1 hM1 ht1 h hw
      obtain ⟨_,h⟩:=ab h
      rw [if_pos hw]
      exact .inl (E_ hC hM1 ht1 (fun e d h1 h2=>hI i o e d ho h1 h2 hun) h _ _ goon)
    unfold ag at h1
    split at h1
    · rename_i hgd
      exact step hM ht h1 (by unfold Region.wanted; rw [hgd])
    · rename_i j want hgd
      split at h1
      · exact False.elim h1
      · rename_i d hd
        obtain ⟨b,S1,h1,hb,hM1,ht1⟩:=k9 hM ht h1
        rcases mr hgd (nD hd hb) h1 with ⟨hw,h1⟩ | ⟨hw,h1⟩
        · exact step hM1 ht1 h1 hw
        · rw [aJ] at h1
          rw [if_neg (by rw [hw]; exact fun h=>by cases h)]
          have hnal:∀ e,o.op≠.alloc e:=fun e he=>by
            have:=hg i o e ho he
            rw [hgd] at this
            cases this
          refine goon _ E _ w h1 ?_ (ht1.put (rO _))
          rw [lV hnal]
          exact hM1.congr cX cY dl
theorem Dh {pl:cm} {o:Oper} (h:sT o=true):gi pl o=0∧o.guard=none∧(∀ t len parts,o.op≠.buildSlice t len parts)∧∀ e,o.op≠.alloc e:=by
  unfold sT at h
  split at h
  · cases h
  · rename_i hg
    split at h
    all_goals first
      | (rename_i ho; refine ⟨?_,hg,fun _ _ _ he=>(by rw [ho] at he; cases he),fun _ he=>(by rw [ho] at he; cases he)⟩; unfold gi gB; rw [ho]; dsimp only; unfold yE; rw [ho]; dsimp only; unfold FX; rw [ho])
      | cases h
theorem Di {C:Ctx} {pl:cm} {o:Oper} {vs:List AV} {k:AV→Prop} {E:Env} {a:Act} (hp:sT o=true) (h:pop C pl o vs k) (hv:cG E vs (o.op.operands.toList.map a.eval)):∃ r z,k r∧VR E r z∧∀ w,(execOp a.eval o).run C.P w=.ok (.value z) w:=by
  unfold sT at hp
  split at hp
  · cases hp
  · split at hp
    · rename_i x ho
      rw [ho] at hv
      unfold pop at h
      rw [ho] at h
      split at h <;> rename_i he <;> first | (cases he; done) | skip
      all_goals first
        | (cases he
           obtain ⟨u,us,e,hc,hn⟩:=hv.uncons
           simp [Op.operands] at e
           exact ⟨_,_,h,hc,fun w=>by simp [execOp,ho,e.1]⟩)
        | exact h.elim
    · rename_i x ho
      rw [ho] at hv
      unfold pop at h
      rw [ho] at h
      split at h <;> rename_i he <;> first | (cases he; done) | skip
      all_goals first
        | (cases he
           obtain ⟨u,us,e,hc,hn⟩:=hv.uncons
           simp [Op.operands] at e
           exact ⟨_,_,h,hc,fun w=>by simp [execOp,ho,e.1]⟩)
        | exact h.elim
    · rename_i x ho
      rw [ho] at hv
      unfold pop at h
      rw [ho] at h
      split at h <;> rename_i he <;> first | (cases he; done) | skip
      all_goals first
        | (cases he
           obtain ⟨u,us,e,hc,hn⟩:=hv.uncons
           simp [Op.operands] at e
           have hc0:=hc
           cases hc with
           | ptr _ _ hs0 hm=>exact ⟨_,_,h,hc0,fun w=>by simp [execOp,ho,e.1]⟩)
        | (cases he
           obtain ⟨u,us,e,hc,hn⟩:=hv.uncons
           simp [Op.operands] at e
           have hc0:=hc
           cases hc with
           | fptr _ us h1 h2 h3 h4=>exact ⟨_,_,h,hc0,fun w=>by simp [execOp,ho,e.1]⟩)
        | (cases he
           obtain ⟨u,us,e,hc,hn⟩:=hv.uncons
           simp [Op.operands] at e
           have hc0:=hc
           cases hc with
           | fn us ws h1 h2 h3 h4=>exact ⟨_,_,h,hc0,fun w=>by simp [execOp,ho,e.1]⟩)
        | exact h.elim
    · rename_i t x f ho
      rw [ho] at hv
      unfold pop at h
      rw [ho] at h
      split at h <;> rename_i he <;> first | (cases he; done) | skip
      all_goals first
        | (cases he
           obtain ⟨u,us,e,hc,hn⟩:=hv.uncons
           simp [Op.operands] at e
           obtain ⟨r,z,hk,hr,hrun⟩:=oa h hc
           exact ⟨r,z,hk,hr,fun w=>by simp [execOp,ho,e.1,hrun w]⟩)
        | exact h.elim
    · cases hp
theorem qo {ops:Array Oper} {listed:Array Bool}:∀ {is:List Nat} {i:Nat},oU ops listed is=some i→i∈is∧∃ o,ops[i]?=some o∧sT o=true∧Region.free .any ops listed i=true
  | [],_,h=>by cases h
  | j::js,i,h=>by
    unfold oU at h
    split at h
    · rename_i hb
      cases h
      rw [Bool.and_eq_true] at hb
      obtain ⟨h1,h2⟩:=hb
      split at h1
      · rename_i o ho
        exact ⟨List.mem_cons_self,o,ho,h1,h2⟩
      · cases h1
    · obtain ⟨h1,h2⟩:=qo h
      exact ⟨List.mem_cons_of_mem _ h1,h2⟩
theorem wP {C:Ctx} (hD:gU C) (hC:eV C) {pl:cm} {ops:Array Oper} {G:Gh} {A:Nat→Prop} {Q:St→Prop} {Qc:Exit→Act→World→Prop} (hs:Region.noSelect ops=true) (hap:Al ops) (hg:∀ (i:Nat) (o:Oper) (e:TypeId),ops[i]?=some o→o.op=.alloc e→o.guard=none)
    (hQ:∀ p S' E' a' w',(∀ d,p d≠none→A d)→Q S'→aj G p E' S' w'→TR E' S'.t a'→Q0 Qc .normal a' w') :
    ∀ (fuel:Nat) (listed:Array Bool) (p:Nat→Option (List AV)) (S:St) (E:Env) (a:Act) (w:World),(∀ d,p d≠none→A d)→aj G p E S w→TR E S.t a→Inv C.P p ops listed→Closed ops listed→uS C pl ops (cy ops.toList []) fuel listed S Q→wpAny C.P .any ops (Q0 Qc) fuel listed a w
  | 0,listed,p,S,E,a,w,hA,hM,ht,hI,hcl,h=>nM hC hap hg hQ 0 listed p S E a w hA hM ht hI (rU hD 0 listed S hcl h)
  | fuel + 1,listed,p,S,E,a,w,hA,hM,ht,hI,hcl,h=>by
    unfold uS at h
    split at h
    · rename_i i hi
      obtain ⟨hm,o,ho,hp,hf⟩:=qo hi
      obtain ⟨hc0,hgd,_,hnal⟩:=Dh (pl:=pl) hp
      unfold yF at h
      rw [ho] at h
      dsimp only at h
      unfold ag at h
      rw [hgd] at h
      obtain ⟨_,h⟩:=ab h
      unfold xK at h
      rw [hc0] at h
      obtain ⟨vs,h,hv⟩:=dM ht h
      obtain ⟨r,z,hk,hr,hrun⟩:=Di hp h hv
      rw [aJ] at hk
      refine wpAny_take ho hs hf (by simpa using hm) (fun c a w hq=>absurd hq.1 (fun h=>by cases h)) (v:=z) (.inl ⟨by unfold Region.wanted; rw [hgd],hrun⟩) ?_
      have hI':=hI.step hap ho
      rw [lV hnal] at hI'
      exact wP hD hC hs hap hg hQ fuel _ p _ E _ w hA (hM.congr cX cY dl) (ht.put hr) hI' (hcl.set hm) hk
    · exact nM hC hap hg hQ (fuel + 1) listed p S E a w hA hM ht hI (rU hD (fuel + 1) listed S hcl h)
theorem wQ {o:Oper} {e:TypeId} {d:Nat} (h1:o.op=.alloc e) (h2:o.dst=some d):∀ {os:List Oper},o∈os→(d,e)∈cO os:=by
  intro os
  induction os with
  | nil=>intro h; cases h
  | cons x xs ih =>
    intro h
    rcases List.mem_cons.1 h with rfl | h
    · unfold cO
      rw [h1,h2]
      exact List.mem_cons_self
    · have:=ih h
      unfold cO
      split
      · exact List.mem_cons_of_mem _ this
      · exact this
theorem BQ {d:Nat}:∀ {xs:List Nat},d∈xs→fa xs d=true:=by
  intro xs
  induction xs with
  | nil=>intro h; cases h
  | cons x xs ih =>
    intro h
    rcases List.mem_cons.1 h with rfl | h
    · simp [fa]
    · simp [fa,ih h]
theorem BR {pl:cm} {x:Oper} {xs:List Oper} (hB:k8 pl (cO (x::xs))=true):k8 pl (cO xs)=true:=by
  unfold cO at hB
  split at hB
  · unfold k8 at hB
    simp only [Bool.and_eq_true] at hB
    exact hB.2
  · exact hB
theorem rW {pl:cm} {o o':Oper} {e e':TypeId} {d:Nat} (h3:o.op=.alloc e) (h4:o'.op=.alloc e') (h5:o.dst=some d) (h6:o'.dst=some d):∀ (os:List Oper),k8 pl (cO os)=true→∀ (i i':Nat),i<i'→os[i]?=some o→os[i']?=some o'→False:=by
  intro os
  induction os with
  | nil=>intro _ i i' _ h1; simp at h1
  | cons x xs ih =>
    intro hB i i' hlt h1 h2
    cases i' with
    | zero=>omega
    | succ i' =>
      rw [List.getElem?_cons_succ] at h2
      cases i with
      | zero =>
        rw [List.getElem?_cons_zero] at h1
        cases h1
        have hm:=wQ h4 h6 (List.mem_of_getElem? h2)
        unfold cO at hB
        rw [h3,h5] at hB
        unfold k8 at hB
        simp only [Bool.and_eq_true,Bool.not_eq_true'] at hB
        have:=BQ (d:=d) (xs:=(cO xs).map (·.1)) (List.mem_map.2 ⟨_,hm,rfl⟩)
        rw [hB.1.2] at this
        cases this
      | succ i =>
        rw [List.getElem?_cons_succ] at h1
        exact ih (BR hB) i i' (by omega) h1 h2
theorem BS {o:Oper} {e:TypeId} (ho:o.op=.alloc e):∀ {os:List Oper},vg os=true→o∈os→o.guard=none:=by
  intro os
  induction os with
  | nil=>intro _ h; cases h
  | cons x xs ih =>
    intro h hm
    unfold vg at h
    simp only [Bool.and_eq_true] at h
    rcases List.mem_cons.1 hm with rfl | hm
    · have h1:=h.1
      cases hg:o.guard with
      | none=>rfl
      | some g=>rw [ho,hg] at h1; cases h1
    · exact ih h.2 hm
section
variable {G:Gh} {w:World} {a:Act} {P:Program}
theorem uC:∀ {ds:List Nat} {E:Env} {S:St} {K:St→Prop},aj G pn E S w→TR E S.t a→nq ds S K→∃ S' E',K S'∧aj G pn E' S' w∧TR E' S'.t a∧∀ d,(E.mu (.L d)=none∨d∈ds)→E'.mu (.L d)=none
  | [],E,S,K,hM,ht,h=>⟨S,E,h,hM,ht,fun d hd=>by rcases hd with hd | hd; exact hd; cases hd⟩
  | d::ds,E,S,K,hM,ht,h=>by
    unfold nq at h
    rw [yO] at h
    obtain ⟨E1,h1,h2,h3,_,_,_,_,h4,_,_⟩:=qM hM ht d rfl
    obtain ⟨S',E',h5,h6,h7,h8⟩:=uC h1 h2 h
    refine ⟨S',E',h5,h6,h7,fun e he=>h8 e ?_⟩
    by_cases hed:e=d
    · subst hed; exact .inl h3
    · rcases he with he | he
      · exact .inl ((h4 e hed).trans he)
      · rcases List.mem_cons.1 he with he | he
        · exact absurd he hed
        · exact .inr he
theorem zl {pl:cm} {E:Env}:∀ {xs:List (Nat×TypeId)} {S:St} {p:Nat→Option (List AV)} {K:St→Prop},aj G p E S w→(∀ d∈xs.map (·.1),E.mu (.L d)=none)→k8 pl xs=true→zS P xs S K →
    ∃ S' p',K S'∧aj G p' E S' w∧S'.t=S.t∧(∀ d e,(d,e)∈xs→∃ cs,p' d=some cs∧0<cs.length∧ZR P e cs)∧∀ d,d ∉ xs.map (·.1)→p' d=p d
  | [],S,p,K,hM,_,_,h=>⟨S,p,h,hM,rfl,fun _ _ h=>(by cases h),fun _ _=>rfl⟩
  | (d,e)::xs,S,p,K,hM,hmu,hB,h=>by
    unfold zS at h
    obtain ⟨cs,hz,h,hinv⟩:=wO h
    replace h:=ab h; obtain ⟨hpos,h⟩:=h
    have hpos':0<cs.length:=Nat.le_of_ble_eq_true hpos
    have hd0:=hmu d (by simp)
    unfold k8 at hB
    simp only [Bool.and_eq_true,Bool.not_eq_true'] at hB
    have hnd:d ∉ xs.map (·.1):=fun hm=>by
      have:=BQ hm
      rw [hB.1.2] at this
      cases this
    have hM1:aj G (fun x=>if x=d then some cs else p x) E { t:=S.t,l:=(d,cs)::S.l,o:=S.o,b:=S.b } w :=
      ⟨hM.hp,hM.os,hM.tape,hM.output,hM.size,hM.keep,hM.F0,hM.Flt,hM.Fnew,hM.own,hM.inj,fun x=>by
        show im _ E (if d=x then some cs else aN S.l x) x
        by_cases hx:d=x
        · subst hx
          rw [if_pos rfl]
          exact .inr ⟨hd0,by simp,hinv⟩
        · rw [if_neg hx]
          exact (hM.loc x).congr (if_neg fun h=>hx h.symm),hM.obj,hM.old,hM.bl,hM.szs,fun x row hx=>by
        show E.mu (.L x)=none∧(if d=x then some cs else aN S.l x)=some row
        by_cases hxd:x=d
        · subst hxd
          rw [if_pos rfl] at hx ⊢
          exact ⟨hd0,hx⟩
        · rw [if_neg hxd] at hx
          rw [if_neg (fun h=>hxd h.symm)]
          exact hM.pk x row hx,hM.ow⟩
    obtain ⟨S',p',h1,h2,h3,h4,h5⟩:=zl (xs:=xs) hM1 (fun x hx=>hmu x (by simp only [List.map_cons]; exact List.mem_cons_of_mem _ hx)) hB.2 h
    refine ⟨S',p',h1,h2,h3,fun x y hxy=>?_,fun x hx=>?_⟩
    · rcases List.mem_cons.1 hxy with hxy | hxy
      · cases hxy
        refine ⟨cs,?_,hpos',hz⟩
        rw [h5 d hnd]
        simp
      · exact h4 x y hxy
    · have hx':x≠d∧x ∉ xs.map (·.1):=⟨fun he=>hx (by rw [he]; simp),fun hm=>hx (by simp only [List.map_cons]; exact List.mem_cons_of_mem _ hm)⟩
      rw [h5 x hx'.2]
      simp [hx'.1]
theorem zm:∀ {xs:List (Nat×TypeId)} {S:St} {X:Prop},lH xs S X→∀ d∈xs.map (·.1),∃ i j,S.t[d]?=some (.ptr (.L d) i j)
  | [],_,_,_,d,hd=>by cases hd
  | (d0,e)::xs,S,X,h,d,hd=>by
    unfold lH at h
    obtain ⟨c,hc,h⟩:=cI.1 h
    split at h
    · rename_i d' i j
      obtain ⟨hb,h⟩:=ab h
      simp only [List.map_cons] at hd
      rcases List.mem_cons.1 hd with rfl | hd
      · have:=Nat.eq_of_beq_eq_true hb
        subst this
        exact ⟨i,j,hc⟩
      · exact zm h d hd
    · exact False.elim h
end
theorem D7 {C:Ctx} (hmix:C.P.follows .mixedOrders=true) (hD:gU C) (hC:eV C):mL C:=by
  intro pl id ops S K h r G E a w Q hM ht hQ
  have h':ca (t_ pl ops) (xP C.P (cO ops.toList) S fun S1=>xO C pl ops S1 fun S'=>lH (cO ops.toList) S' (kQ pl id S' fun S''=>K .nrm S'')):=h
  obtain ⟨hB,h1⟩:=ab h'
  unfold t_ at hB
  simp only [Bool.and_eq_true] at hB
  obtain ⟨hal,hgd⟩:=hB
  unfold xP at h1
  obtain ⟨S1,E1,h2,hM1,ht1,hmu⟩:=uC hM ht h1
  obtain ⟨S2,p2,h3,hM2,ht2,hrow,hout⟩:=zl hM1 (fun d hd=>hmu d (.inr hd)) hal h2
  refine wpIn_region_any hmix ?_
  obtain ⟨hnd,h3⟩:=ab h3
  obtain ⟨hns,hnd⟩:=Gq hnd
  have hcl:Closed ops (Array.replicate ops.size false):=fun j hj=>by
    simp only [Array.getD_eq_getD_getElem?,Array.getElem?_replicate] at hj
    split at hj <;> simp at hj
  refine rV hnd _ _ _ _ ?_
  have h4:uS C pl ops (cy ops.toList []) ops.size (Array.replicate ops.size false) S2 (fun S'=>lH (cO ops.toList) S' (kQ pl id S' fun S''=>K .nrm S''))∨BM C pl ops (fun S'=>lH (cO ops.toList) S' (kQ pl id S' fun S''=>K .nrm S'')) ops.size (Array.replicate ops.size false) S2:=by
    split at h3
    · exact .inr (rU hD _ _ _ hcl h3)
    · exact .inl h3
  have hap1:Al ops:=by
    intro i i' o o' e e' d h1 h2 h3 h4 h5 h6
    rcases Nat.lt_trichotomy i i' with hlt | heq | hlt
    · exact (rW h3 h4 h5 h6 _ hal i i' hlt (by rw [Array.getElem?_toList]; exact h1) (by rw [Array.getElem?_toList]; exact h2)).elim
    · exact heq
    · exact (rW h4 h3 h6 h5 _ hal i' i hlt (by rw [Array.getElem?_toList]; exact h2) (by rw [Array.getElem?_toList]; exact h1)).elim
  have hg1:∀ (i:Nat) (o:Oper) (e:TypeId),ops[i]?=some o→o.op=.alloc e→o.guard=none:=fun i o e h1 h2=>BS h2 hgd (List.mem_of_getElem? (by rw [Array.getElem?_toList]; exact h1))
  have hQ1:∀ p S' E' a' w',(∀ d,p d≠none→d∈(cO ops.toList).map (·.1))→lH (cO ops.toList) S' (kQ pl id S' fun S''=>K .nrm S'')→aj G p E' S' w'→TR E' S'.t a'→Q0 Q .normal a' w':=by
    intro p S' E' a' w' hp hk hS htr
    refine ⟨rfl,?_⟩
    have hps:=zm hk
    have hpn:p=pn:=by
      funext d
      cases hd:p d with
      | none=>rfl
      | some row =>
        exfalso
        obtain ⟨i,j,hij⟩:=hps d (hp d (by rw [hd]; exact fun h=>by cases h))
        have hlt:d<a'.tmps.size:=by rw [← htr.len]; exact (List.getElem?_eq_some_iff.1 hij).1
        have hv:=htr.val d _ _ hij (Array.getElem?_eq_getElem hlt)
        have hne:∃ y,E'.mu (.L d)=some y:=by
          generalize a'.tmps[d]=u at hv
          cases hv with
          | ptr _ _ hs0 hm=>exact ⟨_,hm⟩
        obtain ⟨y,hy⟩:=hne
        have:=(hS.pk d row hd).1
        rw [hy] at this
        cases this
    subst hpn
    obtain ⟨S2,E2,h2,hS2,ht2⟩:=mq hS htr (m8 hk).1
    exact hQ .nrm _ E2 _ _ h2 hS2 ht2
  have hA1:∀ d,p2 d≠none→d∈(cO ops.toList).map (·.1):=by
    intro d hd
    cases Classical.em (d∈(cO ops.toList).map (·.1)) with
    | inl h=>exact h
    | inr h=>exact (hd ((hout d h).trans rfl)).elim
  have hI1:Inv C.P p2 ops (Array.replicate ops.size false):=by
    intro i o e d h1 h2 h3 _
    exact hrow d e (wQ h2 h3 (List.mem_of_getElem? (by rw [Array.getElem?_toList]; exact h1)))
  rcases h4 with h4 | h4
  · exact wP hD hC hns hap1 hg1 hQ1 ops.size _ p2 S2 E1 a _ hA1 hM2.drawn (by rw [ht2]; exact ht1) hI1 hcl h4
  · exact nM hC hap1 hg1 hQ1 ops.size _ p2 S2 E1 a _ hA1 hM2.drawn (by rw [ht2]; exact ht1) hI1 h4
theorem Dj {cfg:qG} (hX:Kd cfg) (hN:m5 cfg.P) (hmix:cfg.P.follows .mixedOrders=true) (n:Nat):eV (gD cfg n)∧nE (gD cfg n)∧mL (gD cfg n) :=
  HI hX.pure hX.sound hN (C4 hX) (fun n h=>D7 (by rw [mM]; exact hmix) (m9 hX n) h) n
open Go.RowKit Go.WideShapes Go.ChangeShapes
section
variable {H:Type} {enc:TypeId×Value→H} {P:Program}
theorem ye {f:Func} {s:ChangeSpec} {apart fresh handsOn again:Bool} {W W':World} {args:Array Value} {v:Value} {ds gs:List (DataW H)} {before pa pv:List MemPlace}
    (hW:DataW.Whole enc P f.params.toList s.vars apart W args.toList ds gs before)
    (hres:∀ (b:Nat) (sp:Nat→Bool) (hd:Bool),DataW.TrodAll enc P W' b sp hd f.resultTypes.toList (v.resultList f.resultTypes.size) (s.fn H (ds++gs)).results [])
    (hargs:∀ sp:Nat→Bool,(∀ p∈before,sp p.block=true)→DataW.TrodAll enc P W' 0 sp true f.params.toList args.toList (s.fn H (ds++gs)).args pa)
    (hvars:∀ sp:Nat→Bool,(∀ p∈before,sp p.block=true)→DataW.TrodVars enc P W' sp s.vars (s.fn H (ds++gs)).vars pv)
    (hps:before=pa++pv) (hb:Below W.heap.size W W')
    (hok:∀ (j:Nat) (t:TypeId) (r:Value),f.resultTypes[j]?=some t→(v.resultList f.resultTypes.size)[j]?=some r→Value.okWide P W' .any 0 t r) :
    s.post enc P f apart fresh handsOn again W args v W':=by
  have hlt:∀ p∈before,p.block<W.heap.size:=fun p hp=>hW.lt p hp
  have hold:∀ p∈before,(fun b=>decide (b<W.heap.size)) p.block=true:=fun p hp=>by simpa using hlt p hp
  refine ⟨ds,gs,before,[],pa,pv,hW,hres _ _ _,hargs _ hold,hvars _ hold,World.keptBut_mono (fun p hp=>⟨hp,?_⟩) (hb.frame (·∈before)),fun _=>?_⟩
  · rw [hps,List.mem_append] at hp
    exact Or.inr hp
  · obtain ⟨_,_,_,_,_,hz,hn⟩:=hW
    refine ⟨hok,_,_,([]++pa)++pv,⟨[]++pa,pv,trodAll_append (hargs _ (fun _ _=>rfl)) (hres _ _ _),hvars _ (fun _ _=>rfl),rfl,?_,?_⟩,?_⟩
    · intro b off hp
      have hin:MemPlace.cell b off∈before:=by rw [hps]; simpa using hp
      rw [hb.frozen (hlt _ hin)]
      exact hz b off hin
    · intro ha
      have:=hn ha
      rw [hps] at this
      simpa using this
    · intro p hp _
      rw [hps]
      simpa using hp
end
theorem wR {P : Program} (h : (P.funcs.all fun fn => !(fn.name == "runtime.NumGoroutine")) = true) : m5 P := by
  intro f fn hf
  have hlt:f<P.funcs.size:=(Array.getElem?_eq_some_iff.1 hf).1
  have:=Array.all_eq_true.1 h f hlt
  rw [Array.getElem?_eq_getElem hlt] at hf
  cases hf
  simpa using this
def jG (P:Program) (_pl:cm) (c:Code) (S:St) (K:Ex→St→Prop):Prop :=
  ∃ n e S',(∀ (r:Option Nat) (G:Gh) (E:Env) (a:Act) (w:World) (Q:Exit→Act→World→Prop),aj G pn E S w→TR E S.t a→Gb G (fun e' S''=>e'=e∧S''=S') Q→Code.roundsIn (rd r) 0 P c Q n a w)∧K e S'
def SD (P:Program) (f:Nat) (args:List AV) (o:List Ob) (K:AV→List Ob→Prop):Prop :=
  ∃ r o',mo P f args o (fun r' o''=>r'=r∧o''=o')∧K r o'
def jq (cfg:qG):Ctx:={ P:=cfg.P,pure:=cfg.pure,pol:=cfg.pol,pcall:=fD cfg.P,scall:=SD cfg.P,loop:=jG cfg.P }
theorem mo.mono {P:Program} {f:Nat} {args:List AV} {o:List Ob} {K K':AV→List Ob→Prop} (h:mo P f args o K) (hk:∀ r o',K r o'→K' r o'):mo P f args o K' :=
  ⟨h.1,fun E w us hM hg hv=>(h.2 E w us hM hg hv).mono fun _ _ ⟨v,r,o',E',h1,h2,h3,h4⟩=>⟨v,r,o',E',hk _ _ h1,h2,h3,h4⟩⟩
theorem SD.out {P:Program} {f:Nat} {args:List AV} {o:List Ob} {K:AV→List Ob→Prop} (h:SD P f args o K):mo P f args o K:=by
  obtain ⟨r,o',h1,h2⟩:=h
  exact h1.mono fun _ _ ⟨e1,e2⟩=>by rw [e1,e2]; exact h2
theorem lq (cfg:qG):eV (jq cfg):=⟨fun _ _ _ h=>h,fun _ _ _ _ h=>h.out⟩
theorem px (cfg:qG):gU (jq cfg) :=
  ⟨fun _ _ _ ⟨r,h1,h2⟩=>⟨r,h2,fun _ h=>⟨r,h1,h⟩⟩,fun _ _ _ _ ⟨r,o',h1,h2⟩=>⟨r,o',h2,fun _ h=>⟨r,o',h1,h⟩⟩,fun _ _ _ _ ⟨n,e,S',h1,h2⟩=>⟨e,S',h2,fun _ h=>⟨n,e,S',h1,h⟩⟩⟩
theorem lr (cfg:qG):nE (jq cfg):=by
  rintro pl c S K ⟨n,e,S',h1,h2⟩ r G E a w Q hM ht hQ
  exact wpIn_loop_rounds n (h1 r G E a w Q hM ht fun e' S'' E' a' w' ⟨e1,e2⟩ hS htr=>by subst e1 e2; exact hQ _ _ _ _ _ h2 hS htr)
theorem m_ {cfg:qG} (hmix:cfg.P.follows .mixedOrders=true):mL (jq cfg):=D7 hmix (px cfg) (lq cfg)
theorem jG.step {cfg:qG} (hmix:cfg.P.follows .mixedOrders=true) {pl:cm} {c:Code} {S:St} {K:Ex→St→Prop}
    (h:il (jq cfg) pl c S fun e S'=>match e with
      | .nrm=>jG cfg.P pl c S' K
      | .ex i=>K (.ex i) S'
      | .ret=>K .ret S'):jG cfg.P pl c S K:=by
  obtain ⟨e1,S1,h1,h2⟩:=tg (px cfg) c _ h
  have run:∀ (e:Ex) (S2:St) (n:Nat),(∀ (r:Option Nat) (G:Gh) (E:Env) (a:Act) (w:World) (Q:Exit→Act→World→Prop),aj G pn E S1 w→TR E S1.t a→Gb G (fun e' S''=>e'=e∧S''=S2) Q→Exit.then (Code.roundsIn (rd r) 0 cfg.P c Q n) Q (HG e1) a w) →
      ∀ (r:Option Nat) (G:Gh) (E:Env) (a:Act) (w:World) (Q:Exit→Act→World→Prop),aj G pn E S w→TR E S.t a→Gb G (fun e' S''=>e'=e∧S''=S2) Q→Code.roundsIn (rd r) 0 cfg.P c Q (n + 1) a w:=by
    intro e S2 n hn r G E a w Q hM ht hQ
    refine pe (lq cfg) (lr cfg) (m_ hmix) c (h2 (fun e' S'=>e'=e1∧S'=S1) ⟨rfl,rfl⟩) r G E a w _ hM ht (fun e' S' E' a' w' hk hS htr=>?_)
    obtain ⟨rfl,rfl⟩:=hk
    exact hn r G E' a' w' Q hS htr hQ
  cases e1 with
  | nrm =>
    obtain ⟨n,e,S',hl,hk⟩:=h1
    exact ⟨n + 1,e,S',run e S' n (fun r G E a w Q hM ht hQ=>hl r G E a w Q hM ht hQ),hk⟩
  | ex i=>exact ⟨1,.ex i,S1,run _ _ 0 (fun r G E a w Q hM ht hQ=>hQ _ _ _ _ _ ⟨rfl,rfl⟩ hM ht),h1⟩
  | ret=>exact ⟨1,.ret,S1,run _ _ 0 (fun r G E a w Q hM ht hQ=>hQ _ _ _ _ _ ⟨rfl,rfl⟩ hM ht),h1⟩
theorem fD.mono {P:Program} {f:Nat} {args:List AV} {K K':AV→Prop} (h:fD P f args K) (hk:∀ r,K r→K' r):fD P f args K' :=
  let ⟨r,h1,h2⟩:=h
  ⟨r,h1,hk _ h2⟩
theorem jG.mono {P:Program} {pl:cm} {c:Code} {S:St} {K K':Ex→St→Prop} (h:jG P pl c S K) (hk:∀ e S',K e S'→K' e S'):jG P pl c S K' :=
  let ⟨n,e,S',h1,h2⟩:=h
  ⟨n,e,S',h1,hk _ _ h2⟩
theorem SD.mono {P:Program} {f:Nat} {args:List AV} {o:List Ob} {K K':AV→List Ob→Prop} (h:SD P f args o K) (hk:∀ r o',K r o'→K' r o'):SD P f args o K' :=
  let ⟨r,o',h1,h2⟩:=h
  ⟨r,o',h1,hk _ _ h2⟩
theorem fD.of {cfg:qG} (hN:m5 cfg.P) (hmix:cfg.P.follows .mixedOrders=true) {f:Nat} {args:List AV} {K:AV→Prop} (h:ud (jq cfg) f args K):fD cfg.P f args K :=
  uw (lq cfg) (lr cfg) (m_ hmix) hN (fun f args K h=>by
    obtain ⟨r,h1,h2⟩:=ti (px cfg) K h
    exact ⟨r,h1,h2 _ rfl⟩) h
theorem SD.of {cfg:qG} (hN:m5 cfg.P) (hmix:cfg.P.follows .mixedOrders=true) {f:Nat} {args:List AV} {o:List Ob} {K:AV→List Ob→Prop} (h:oV (jq cfg) f args o K):SD cfg.P f args o K:=by
  obtain ⟨r,o',h1,h2⟩:=wE (px cfg) K h
  exact ⟨r,o',nF (lq cfg) (lr cfg) (m_ hmix) hN (h2 _ ⟨rfl,rfl⟩),h1⟩
theorem q8 {P:Program} {f:Nat} {args:List AV} (h:fD P f args fun x=>x=.v (.bool true)) (F:Nat→Prop) (w:World) (us:Array Value) (hF:∀ b,F b→b<w.heap.size) (hg:vR ⟨F,fun _=>none,w.heap⟩) (hv:cG ⟨F,fun _=>none,w.heap⟩ args us.toList) :
    Calls P f us w fun e w'=>e=.returned (.bool true)∧Go.RowKit.Below w.heap.size w w':=by
  obtain ⟨r,⟨_,h4⟩,rfl⟩:=h
  refine (h4 F w us hF hg hv).mono ?_
  rintro e w' ⟨v,F',rfl,hv,hb,_⟩
  exact ⟨by rw [hv.vI.1],hb⟩
open Go.ChangeShapes Go.WideShapes
def Am (P:Program):List Field→Nat→Bool
  | [],_=>true
  | f::fs,k=>Nat.beq f.offset k&&Am P fs (k + P.cellsOf f.type)
def uD (P:Program):Nat→TypeId→Bool
  | 0,_=>false
  | n + 1,t =>
    match P.underlying t with
    | some .bool | some (.int _) | some .string=>true
    | some (.slice e)=>Nat.blt 0 (P.cellsOf e)&&uD P n e
    | some (.struct fs)=>Am P fs.toList 0&&Nat.beq (fs.toList.foldl (fun s f=>s + P.cellsOf f.type) 0) (P.cellsOf t)&&fs.toList.all fun f=>uD P n f.type
    | _=>false
def ef {H:Type} (P:Program):Nat→TypeId→DataW H→Bool
  | 0,_,_=>false
  | n + 1,t,d =>
    match P.underlying t,d with
    | some .bool,.lit (.bool _)=>true
    | some (.int k),.lit (.int k' m)=>decide (k'=k)&&(Lit.int k m).wf
    | some .string,.lit (.string bs)=>decide (bs.length≤maxLen)
    | some (.slice _),.nil=>true
    | some (.slice e),.slice xs _=>decide (xs.length≤maxLen)&&xs.all (ef P n e)
    | some (.struct fs),.agg ds=>Nat.beq ds.length fs.size&&(fs.toList.zip ds).all fun x=>ef P n x.1.type x.2
    | _,_=>false
def iD {H:Type} (P:Program):Nat→TypeId→DataW H→List AV
  | 0,_,_=>[]
  | n + 1,t,d =>
    match P.underlying t,d with
    | some .bool,.lit (.bool b)=>[.v (.bool b)]
    | some (.int k),.lit (.int _ m)=>[.v (.int k m)]
    | some .string,.lit (.string bs)=>[.v (.string ⟨bs.toArray⟩)]
    | some (.slice _),.nil=>[.nilsl]
    | some (.slice e),.slice xs _=>[.sl (xs.map (iD P n e))]
    | some (.struct fs),.agg ds=>(fs.toList.zip ds).flatMap fun x=>iD P n x.1.type x.2
    | _,_=>[]
def u0 (w:World):Env:=⟨fun b=>b<w.heap.size,fun _=>none,w.heap⟩
theorem wS {α β:Type} {f:α→Option β}:∀ {xs:List α} {ys:List β},xs.mapM f=some ys→xs.length=ys.length∧∀ (i:Nat) (x:α),xs[i]?=some x→∃ y,ys[i]?=some y∧f x=some y
  | [],ys,h=>by
    simp at h
    subst h
    exact ⟨rfl,fun i x h=>by simp at h⟩
  | x::xs,ys,h=>by
    rw [List.mapM_cons] at h
    simp only [Option.pure_def,Option.bind_eq_bind,Option.bind_eq_some_iff,Option.some.injEq] at h
    obtain ⟨y,hy,ys',hys,rfl⟩:=h
    obtain ⟨h1,h2⟩:=wS hys
    refine ⟨by simp [h1],fun i z hz=>?_⟩
    cases i with
    | zero =>
      simp only [List.getElem?_cons_zero,Option.some.injEq] at hz
      subst hz
      exact ⟨y,rfl,hy⟩
    | succ i=>exact h2 i z (by simpa using hz)
theorem q9 {w:World} {a:Addr} {v:Value} (h:w.cell? a=some v):a.spot=none∧a.block<w.heap.size∧eL w.heap a.block a.off=some v:=by
  unfold World.cell? at h
  split at h
  · rename_i c t fr hb
    split at h
    · cases h
    · rename_i hs
      refine ⟨by simpa using hs,(Array.getElem?_eq_some_iff.1 hb).1,?_⟩
      unfold eL
      rw [hb]
      exact h
  · cases h
theorem wT (P:Program):∀ (fs:List Field) (k:Nat),fs.foldl (fun s f=>s + P.cellsOf f.type) k=k + fs.foldl (fun s f=>s + P.cellsOf f.type) 0
  | [],k=>by simp
  | f::fs,k=>by
    rw [List.foldl_cons,List.foldl_cons,wT P fs (k + _),wT P fs (0 + _)]
    omega
theorem wU {α:Type} {sz:Nat}:∀ {rows:List (List α)} {m:Nat} {c:α},0<sz→(∀ r∈rows,r.length=sz)→rows.flatten[m]?=some c→∃ r,rows[m / sz]?=some r∧r[m % sz]?=some c
  | [],m,c,_,_,h=>by simp at h
  | r::rs,m,c,hs,hr,h=>by
    have h0:=hr r List.mem_cons_self
    rw [List.flatten_cons] at h
    by_cases hm:m<sz
    · rw [List.getElem?_append_left (by omega)] at h
      refine ⟨r,?_,?_⟩
      · rw [Nat.div_eq_of_lt hm]; rfl
      · rw [Nat.mod_eq_of_lt hm]; exact h
    · rw [List.getElem?_append_right (by omega),h0] at h
      obtain ⟨r',h1,h2⟩:=wU (rows:=rs) hs (fun r h=>hr r (List.mem_cons_of_mem _ h)) h
      have e1:m / sz=(m - sz) / sz + 1:=by
        rw [← Nat.add_div_right _ hs]
        congr 1
        omega
      have e2:m % sz=(m - sz) % sz:=by
        rw [Nat.mod_eq_sub_mod (by omega)]
      rw [e1,e2,List.getElem?_cons_succ]
      exact ⟨r',h1,h2⟩
section
variable {H:Type} {enc:TypeId×Value→H} {P:Program} {w:World} {sp:Nat→Bool}
theorem HM:(u0 w).fz=u0 w:=rfl
theorem zn {n:Nat} {base:Nat} {fuel:Nat} (ih:∀ {fuel:Nat} {t:TypeId} {cs:List Value} {d:DataW H} {ps:List MemPlace},uD P n t=true→cs.length=P.cellsOf t→DataW.trod enc P w base sp true fuel t cs=some (d,ps)→ef P n t d=true∧cG (u0 w) (iD P n t d) cs) :
    ∀ (fs:List Field) (k:Nat) (cs:List Value) (xs:List (DataW H×List MemPlace)),Am P fs k=true→k + fs.foldl (fun s f=>s + P.cellsOf f.type) 0=cs.length→(fs.all fun f=>uD P n f.type)=true →
      fs.mapM (fun f=>DataW.trod enc P w base sp true fuel f.type ((cs.drop f.offset).take (P.cellsOf f.type)))=some xs →
      ((fs.zip (xs.map (·.1))).all fun x=>ef P n x.1.type x.2)=true∧cG (u0 w) ((fs.zip (xs.map (·.1))).flatMap fun x=>iD P n x.1.type x.2) (cs.drop k)
  | [],k,cs,xs,_,hl,_,h=>by
    simp at h
    subst h
    simp at hl
    refine ⟨rfl,?_⟩
    rw [List.drop_eq_nil_of_le (by omega)]
    exact .nil _
  | f::fs,k,cs,xs,hc,hl,hg,h=>by
    rw [List.mapM_cons] at h
    simp only [Option.pure_def,Option.bind_eq_bind,Option.bind_eq_some_iff,Option.some.injEq] at h
    obtain ⟨y,hy,ys,hys,rfl⟩:=h
    unfold Am at hc
    simp only [Bool.and_eq_true] at hc
    have hoff:=Nat.eq_of_beq_eq_true hc.1
    simp only [List.all_cons,Bool.and_eq_true] at hg
    rw [List.foldl_cons,wT] at hl
    rw [hoff] at hy
    have hlen:((cs.drop k).take (P.cellsOf f.type)).length=P.cellsOf f.type:=by simp; omega
    obtain ⟨h1,h2⟩:=ih (ps:=y.2) hg.1 hlen hy
    obtain ⟨h3,h4⟩:=zn ih fs (k + P.cellsOf f.type) cs ys hc.2 (by omega) hg.2 hys
    refine ⟨by simp [h1,h3],?_⟩
    show cG _ (iD P n f.type y.1++_) _
    have:=h2.append h4
    rw [← List.drop_drop,List.take_append_drop] at this
    exact this
theorem vm {base:Nat}:∀ (n:Nat) {fuel:Nat} {t:TypeId} {cs:List Value} {d:DataW H} {ps:List MemPlace},uD P n t=true→cs.length=P.cellsOf t→DataW.trod enc P w base sp true fuel t cs=some (d,ps)→ef P n t d=true∧cG (u0 w) (iD P n t d) cs
  | 0,_,_,_,_,_,h,_,_=>by cases h
  | n + 1,0,_,_,_,_,_,_,h=>by simp [DataW.trod] at h
  | n + 1,fuel + 1,t,cs,d,ps,hg,hlen,h=>by
    have one:∀ {c:AV} {u:Value},VR (u0 w) c u→cG (u0 w) [c] [u]:=fun h=>.cons h (.nil _)
    unfold uD at hg
    unfold DataW.trod at h
    split at hg
    · rename_i hu
      rw [hu] at h
      split at h <;> first | (simp_all; done) | skip
      rename_i b _ _
      simp only [Option.some.injEq,Prod.mk.injEq] at h
      obtain ⟨rfl,_⟩:=h
      refine ⟨by unfold ef; rw [hu],?_⟩
      unfold iD
      rw [hu]
      exact one (.v _ _ rfl)
    · rename_i k hu
      rw [hu] at h
      split at h <;> first | (simp_all; done) | skip
      rename_i k' kk m e2
      cases e2
      split at h
      · rename_i hk
        simp only [Option.some.injEq,Prod.mk.injEq] at h
        obtain ⟨rfl,_⟩:=h
        obtain ⟨hkk,hwf⟩:=hk
        subst hkk
        refine ⟨by unfold ef; rw [hu]; simp [hwf],?_⟩
        unfold iD
        rw [hu]
        exact one (.v _ _ rfl)
      · cases h
    · rename_i hu
      rw [hu] at h
      split at h <;> first | (simp_all; done) | skip
      rename_i s e2
      split at h
      · rename_i hs
        simp only [Option.some.injEq,Prod.mk.injEq] at h
        obtain ⟨rfl,_⟩:=h
        refine ⟨by unfold ef; rw [hu]; simpa using hs,?_⟩
        unfold iD
        rw [hu]
        have:(⟨s.data.toList.toArray⟩:ByteArray)=s:=by cases s; simp
        dsimp only
        rw [this]
        exact one (.v _ _ rfl)
      · cases h
    · rename_i e hu
      simp only [Bool.and_eq_true] at hg
      have hsz:0<P.cellsOf e:=Nat.le_of_ble_eq_true hg.1
      rw [hu] at h
      split at h <;> first | (simp_all; done) | skip
      · simp only [Option.some.injEq,Prod.mk.injEq] at h
        obtain ⟨rfl,_⟩:=h
        refine ⟨by unfold ef; rw [hu],?_⟩
        unfold iD
        rw [hu]
        exact one (.nilsl _)
      · rename_i e0 a len cap e2
        cases e2
        dsimp only at h
        split at h
        · rename_i hb
          simp only [Option.bind_eq_some_iff,Option.map_eq_some_iff,Prod.mk.injEq] at h
          obtain ⟨elems,he,rest,_,rfl,_⟩:=h
          obtain ⟨hl1,hget⟩:=wS he
          simp only [List.length_range] at hl1
          have hel:∀ (i:Nat) (y:DataW H×List MemPlace),elems[i]?=some y→∃ cs',(w.cells? base (a.add (i * P.cellsOf e)) (P.cellsOf e))=some cs'∧ef P n e y.1=true∧cG (u0 w) (iD P n e y.1) cs':=by
            intro i y hy
            have hi:i<len:=by rw [hl1]; exact (List.getElem?_eq_some_iff.1 hy).1
            obtain ⟨y',hy',hf⟩:=hget i i (by simp [hi])
            rw [hy] at hy'
            cases hy'
            simp only [Option.bind_eq_some_iff] at hf
            obtain ⟨cs',hc,ht⟩:=hf
            have hcl:=(World.cells?_some hc).2.1
            obtain ⟨h1,h2⟩:=vm n (ps:=y.2) hg.2 hcl ht
            exact ⟨cs',hc,h1,h2⟩
          refine ⟨?_,?_⟩
          · unfold ef
            rw [hu]
            simp only [Bool.and_eq_true,decide_eq_true_eq,List.length_map,List.all_eq_true,List.mem_map]
            refine ⟨by omega,?_⟩
            rintro x ⟨y,hy,rfl⟩
            obtain ⟨i,hi,hiy⟩:=List.getElem_of_mem hy
            obtain ⟨cs',_,h1,_⟩:=hel i y (by rw [List.getElem?_eq_getElem hi,hiy])
            exact h1
          · unfold iD
            rw [hu]
            refine one ?_
            cases hlen0:len with
            | zero =>
              have:elems=[]:=List.eq_nil_of_length_eq_zero (by omega)
              rw [this]
              exact .sle _ a cap
            | succ len' =>
              have hrow:∀ (i:Nat) (y:DataW H×List MemPlace),elems[i]?=some y→∃ cs',cs'.length=P.cellsOf e∧cG (u0 w) (iD P n e y.1) cs'∧∀ j,j<P.cellsOf e→w.cell? ((a.add (i * P.cellsOf e)).add j)=cs'[j]?:=by
                intro i y hy
                obtain ⟨cs',hc,_,h2⟩:=hel i y hy
                obtain ⟨_,h3,h4⟩:=World.cells?_some hc
                exact ⟨cs',h3,h2,h4⟩
              obtain ⟨y0,hy0⟩:∃ y0,elems[0]?=some y0:=⟨elems[0]'(by omega),List.getElem?_eq_getElem (by omega)⟩
              obtain ⟨c0,hc0,_,hat0⟩:=hrow 0 y0 hy0
              have h00:=hat0 0 hsz
              simp only [Nat.zero_mul,Addr.add,if_pos] at h00
              have hv0:c0[0]?=some (c0[0]'(by omega)):=List.getElem?_eq_getElem (by omega)
              rw [hv0] at h00
              obtain ⟨hspot,hblk,_⟩:=q9 h00
              obtain ⟨b,off,spot⟩:=a
              simp only at hspot hblk
              subst hspot
              have hadd:∀ x,(⟨b,off,none⟩:Addr).add x=⟨b,off + x,none⟩:=fun x=>by unfold Addr.add; split <;> simp_all
              have hrl:∀ r∈(elems.map (·.1)).map (iD P n e),r.length=P.cellsOf e:=by
                intro r hr
                simp only [List.map_map,List.mem_map] at hr
                obtain ⟨y,hy,rfl⟩:=hr
                obtain ⟨i,hi,hiy⟩:=List.getElem_of_mem hy
                obtain ⟨cs',h1,h2,_⟩:=hrow i y (by rw [List.getElem?_eq_getElem hi,hiy])
                exact h2.1.trans h1
              have hfl:((elems.map (·.1)).map (iD P n e)).flatten.length=len * P.cellsOf e:=by
                have:∀ (rows:List (List AV)),(∀ r∈rows,r.length=P.cellsOf e)→rows.flatten.length=rows.length * P.cellsOf e:=by
                  intro rows
                  induction rows with
                  | nil=>intro _; simp
                  | cons r rs ih=>intro hr; rw [List.flatten_cons,List.length_append,ih (fun r h=>hr r (List.mem_cons_of_mem _ h)),hr r List.mem_cons_self,List.length_cons,Nat.succ_mul]; omega
                rw [this _ hrl]
                simp [hl1]
              have hcell:∀ m,m<len * P.cellsOf e→∃ u,eL w.heap b (off + m)=some u:=by
                intro m hm
                have hi:m / P.cellsOf e<len:=(Nat.div_lt_iff_lt_mul hsz).2 hm
                have hj:m % P.cellsOf e<P.cellsOf e:=Nat.mod_lt _ hsz
                obtain ⟨y,hy⟩:∃ y,elems[m / P.cellsOf e]?=some y:=⟨elems[m / P.cellsOf e]'(by omega),List.getElem?_eq_getElem (by omega)⟩
                obtain ⟨cs',h1,h2,h3⟩:=hrow _ y hy
                have h4:=h3 _ hj
                have hv:cs'[m % P.cellsOf e]?=some (cs'[m % P.cellsOf e]'(by omega)):=List.getElem?_eq_getElem (by omega)
                rw [hv,hadd] at h4
                have hadd2:∀ x y,(⟨b,x,none⟩:Addr).add y=⟨b,x + y,none⟩:=fun x y=>by unfold Addr.add; split <;> simp_all
                rw [hadd2] at h4
                obtain ⟨_,_,h5⟩:=q9 h4
                have ee:off + m / P.cellsOf e * P.cellsOf e + m % P.cellsOf e=off + m:=by
                  have:=Nat.div_add_mod m (P.cellsOf e)
                  rw [Nat.mul_comm] at this
                  omega
                simp only [ee] at h5
                exact ⟨_,h5⟩
              have hus:=VR.sl (E:=u0 w) (rows:=(elems.map (·.1)).map (iD P n e)) (sz:=P.cellsOf e) (b:=b) (o:=off) (cap:=cap)
                ((List.range (len * P.cellsOf e)).map fun m=>(eL w.heap b (off + m)).getD undef) hsz hrl (by rw [hfl]; simp) (fun m c u h1 h2=>?_) hblk (fun m u hu'=>?_) (by simp; omega)
              · have e1:((elems.map (·.1)).map (iD P n e)).length=len' + 1:=by simp; omega
                rw [e1] at hus
                exact hus
              · rw [HM]
                obtain ⟨r,h3,h4⟩:=wU hsz hrl h1
                rw [List.getElem?_map,List.getElem?_map,Option.map_eq_some_iff] at h3
                obtain ⟨x,h3,rfl⟩:=h3
                rw [Option.map_eq_some_iff] at h3
                obtain ⟨y,hy,rfl⟩:=h3
                obtain ⟨cs',h5,h6,h7⟩:=hrow _ y hy
                obtain ⟨u',hu1,hu2⟩:=h6.get h4
                have hj:m % P.cellsOf e<P.cellsOf e:=Nat.mod_lt _ hsz
                have h8:=h7 _ hj
                have hadd2:∀ x y,(⟨b,x,none⟩:Addr).add y=⟨b,x + y,none⟩:=fun x y=>by unfold Addr.add; split <;> simp_all
                rw [hu1,hadd,hadd2] at h8
                obtain ⟨_,_,h9⟩:=q9 h8
                have ee:off + m / P.cellsOf e * P.cellsOf e + m % P.cellsOf e=off + m:=by
                  have:=Nat.div_add_mod m (P.cellsOf e)
                  rw [Nat.mul_comm] at this
                  omega
                simp only [ee] at h9
                have hm:m<len * P.cellsOf e:=by rw [← hfl]; exact (List.getElem?_eq_some_iff.1 h1).1
                rw [List.getElem?_map,List.getElem?_range hm] at h2
                simp only [Option.map_some,h9,Option.getD_some,Option.some.injEq] at h2
                subst h2
                exact hu2
              · have hm:m<len * P.cellsOf e:=by
                  have:=(List.getElem?_eq_some_iff.1 hu').1
                  simpa using this
                rw [List.getElem?_map,List.getElem?_range hm] at hu'
                obtain ⟨u',h5⟩:=hcell m hm
                simp only [Option.map_some,h5,Option.getD_some,Option.some.injEq] at hu'
                subst hu'
                exact h5
        · cases h
    · rename_i fs hu
      simp only [Bool.and_eq_true] at hg
      rw [hu] at h
      split at h <;> first | (simp_all; done) | skip
      rename_i fs0 e1
      cases e1
      rw [if_pos hlen] at h
      simp only [Option.map_eq_some_iff,Prod.mk.injEq] at h
      obtain ⟨xs,hx,rfl,_⟩:=h
      have hsum:=Nat.eq_of_beq_eq_true hg.1.2
      obtain ⟨h1,h2⟩:=zn (n:=n) (base:=base) (fuel:=fuel) (fun hg hl ht=>vm n hg hl ht) fs.toList 0 _ xs hg.1.1 (by omega) hg.2 hx
      obtain ⟨hl1,_⟩:=wS hx
      refine ⟨?_,?_⟩
      · unfold ef
        rw [hu]
        simp only [Bool.and_eq_true]
        exact ⟨by simp at hl1; simp [hl1],h1⟩
      · unfold iD
        rw [hu]
        simpa using h2
    · cases hg
end
def qp {H:Type} (P:Program) (n:Nat) (t:TypeId) (d:DataW H):AV :=
  match P.underlying t with
  | some (.struct _)=>.agg (iD P n t d)
  | _=>(iD P n t d).headD .bad
def lW (P:Program) (t:TypeId):Bool :=
  match P.underlying t with
  | some (.struct _)=>true
  | _=>false
def D8 (P:Program) (n:Nat) (t:TypeId):Bool:=uD P n t&&(lW P t||Nat.beq (P.cellsOf t) 1)
section
variable {H:Type} {enc:TypeId×Value→H} {P:Program} {W W':World}
theorem I_ {n:Nat} {t:TypeId} {v:Value} {d:DataW H} {p:List MemPlace} {base:Nat} (hg:D8 P n t=true) (hv:Value.okWide P W .any base t v) (h:DataW.Trod enc P W 0 (fun _=>true) true t v d p) :
    ef P n t d=true∧VR (u0 W) (qp P n t d) v:=by
  unfold D8 at hg
  simp only [Bool.and_eq_true,Bool.or_eq_true] at hg
  obtain ⟨fuel,hf⟩:=h
  cases hs:lW P t with
  | true =>
    unfold lW at hs
    split at hs
    · rename_i fs hu
      unfold Value.okWide at hv
      rw [hu] at hv
      obtain ⟨cs,rfl,hsz,_⟩:=hv
      have hc:(Value.agg cs).cells.toList=cs.toList:=rfl
      rw [hc] at hf
      obtain ⟨h1,h2⟩:=vm (base:=0) n (ps:=p) hg.1 (by simpa using hsz) hf
      refine ⟨h1,?_⟩
      unfold qp
      rw [hu]
      exact h2.aggV
    · cases hs
  | false =>
    have hc1:P.cellsOf t=1:=by
      rcases hg.2 with h | h
      · rw [hs] at h; cases h
      · exact Nat.eq_of_beq_eq_true h
    have hone:v.cells.toList=[v]:=by
      have hns:∀ fs,P.underlying t≠some (.struct fs):=fun fs he=>by unfold lW at hs; rw [he] at hs; cases hs
      have hgt:=hg.1
      cases v with
      | agg cs =>
        exfalso
        cases n with
        | zero=>cases hgt
        | succ n =>
          unfold uD at hgt
          unfold Value.okWide at hv
          split at hgt
          · rename_i hu; rw [hu] at hv; simp [Cell.okWide,Cell.ok,hu] at hv
          · rename_i k hu; rw [hu] at hv; simp [Cell.okWide,Cell.ok,hu] at hv
          · rename_i hu; rw [hu] at hv; simp [Cell.okWide,Cell.ok,hu] at hv
          · rename_i e hu; rw [hu] at hv; simp [Cell.okWide,Cell.ok,hu] at hv
          · rename_i fs hu; exact hns fs hu
          · cases hgt
      | _=>rfl
    rw [hone] at hf
    obtain ⟨h1,h2⟩:=vm (base:=0) n (ps:=p) hg.1 (by rw [hc1]; rfl) hf
    refine ⟨h1,?_⟩
    have hav:qp P n t d=(iD P n t d).headD .bad:=by
      unfold qp
      unfold lW at hs
      split at hs
      · cases hs
      · rfl
    rw [hav]
    cases he:iD P n t d with
    | nil=>exact .bad _ _
    | cons c cs =>
      rw [he] at h2
      exact h2.2 0 c v rfl rfl
theorem D9 {n base:Nat}:∀ {ts:List TypeId} {vs:List Value} {ds:List (DataW H)} {p:List MemPlace},(ts.all (D8 P n))=true→(∀ (j:Nat) (t:TypeId) (v:Value),ts[j]?=some t→vs[j]?=some v→Value.okWide P W .any base t v) →
    DataW.TrodAll enc P W 0 (fun _=>true) true ts vs ds p→ds.length=ts.length∧((ts.zip ds).all fun x=>ef P n x.1 x.2)=true∧cG (u0 W) ((ts.zip ds).map fun x=>qp P n x.1 x.2) vs
  | [],[],[],_,_,_,_=>⟨rfl,rfl,.nil _⟩
  | t::ts,v::vs,d::ds,_,hg,hv,h=>by
    obtain ⟨p,q,h1,h2,_⟩:=h
    simp only [List.all_cons,Bool.and_eq_true] at hg
    obtain ⟨h3,h4⟩:=I_ hg.1 (hv 0 t v rfl rfl) h1
    obtain ⟨h5,h6,h7⟩:=D9 hg.2 (fun j t v e1 e2=>hv (j + 1) t v (by simpa using e1) (by simpa using e2)) h2
    exact ⟨by simp [h5],by simp [h3,h6],.cons h4 h7⟩
  | [],[],_::_,_,_,_,h=>by cases h
  | [],_::_,_,_,_,_,h=>by cases h
  | _::_,[],_,_,_,_,h=>by cases h
  | _::_,_::_,[],_,_,_,h=>by cases h
theorem zo {sp:Nat→Bool} (hl:laidOutB P=true):∀ {ts:List TypeId} {vs:List Value} {ds:List (DataW H)} {p:List MemPlace},(ts.all fun t=>P.readableRec t&&decide (t<P.types.size))=true →
    DataW.TrodAll enc P W 0 (fun _=>true) true ts vs ds p→Below W.heap.size W W'→(∀ x∈p,x.block<W.heap.size)→(∀ x∈p,sp x.block=true)→DataW.TrodAll enc P W' 0 sp true ts vs ds p
  | [],[],[],_,_,h,_,_,_=>h
  | t::ts,v::vs,d::ds,_,hg,h,hb,hlt,hsp=>by
    obtain ⟨p,q,h1,h2,rfl⟩:=h
    simp only [List.all_cons,Bool.and_eq_true,decide_eq_true_eq] at hg
    refine ⟨p,q,Go.WideElems.Trod_stays hl hg.1.1 hg.1.2 h1 (fun x hx=>hb.same (hlt x (List.mem_append.2 (.inl hx)))) (fun x hx=>hsp x (List.mem_append.2 (.inl hx))),?_,rfl⟩
    exact zo hl hg.2 h2 hb (fun x hx=>hlt x (List.mem_append.2 (.inr hx))) (fun x hx=>hsp x (List.mem_append.2 (.inr hx)))
  | [],[],_::_,_,_,h,_,_,_=>by cases h
  | [],_::_,_,_,_,h,_,_,_=>by cases h
  | _::_,[],_,_,_,h,_,_,_=>by cases h
  | _::_,_::_,[],_,_,h,_,_,_=>by cases h
end
end A
end Go.Proofs.YtcckeabholabcaaGreat
