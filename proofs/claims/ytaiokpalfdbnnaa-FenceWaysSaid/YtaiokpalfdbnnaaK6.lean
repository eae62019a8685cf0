/- Orders that are open; contracts; arguments read as data. Nothing is claimed here of the program. -/
import Derived.Test.YtaiokpalfdbnnaaK5
import Derived.Still
import Derived.WalkKit
import Derived.ProofKit
import Derived.OpenShut
import Derived.LoopNIn
import Derived.DataReads
import Derived.Carry
import Derived.WideKeyArgs
namespace Go.Proofs.Ytaiokpalfdbnnaa
namespace A
open Go
theorem lT:∀ {xs:List (Nat×TypeId)} {S:St} {X:Prop},km xs S X→X∧∀ X',X'→km xs S X'
  | [],_,_,h=>⟨h,fun _ h=>h⟩
  | (d,e)::xs,S,X,h=>by
    obtain ⟨a,h1,h2⟩:=ca.1 h
    split at h2
    · rename_i d' i j
      obtain ⟨hb,h2⟩:=ac h2
      obtain ⟨h3,h4⟩:=lT h2
      refine ⟨h3,fun X' h=>ca.2 ⟨_,h1,?_⟩⟩
      exact al hb (h4 X' h)
    · exact False.elim h2
theorem fF {C:Ctx} (hC:gd C) {pl:bK} {aj:Array Oper} {i:Nat} {S:St}:aw (xv C pl aj i S):=by
  show aw (fun K:St→Prop=>xv C pl aj i S K)
  unfold xv
  split
  · exact aw.failN
  · exact EN hC
theorem DF {S2 S1:St} {X:(St→Prop)→Prop} (h:aw X):aw (fun K=>sS S2 S1 (X K)):=by
  unfold sS
  split
  · exact h
  · exact fun K hk=>by
      obtain ⟨r,h1,h2⟩:=h K hk.2
      exact ⟨r,h1,fun K' hk'=>⟨hk.1,h2 K' hk'⟩⟩
theorem Af {go:Nat→(St→Prop)→Prop} (hg:∀ i,aw (go i)):∀ (is:List Nat) (S1:St),aw (fun K:St→Prop=>Bj go is S1 (K S1))
  | [],S1=>aw.ret S1
  | i::is,S1=>by
    show aw (fun K:St→Prop=>go i fun S2=>sS S2 S1 (Bj go is S1 (K S1)))
    exact aw.bind (hg i) (fun S2=>DF (Af hg is S1))
theorem fh {C:Ctx} (hC:gd C) {pl:bK} {aj:Array Oper} {ws:List Nat}:∀ (n:Nat) (listed:Array Bool) (S:St),aw (jt C pl aj ws n listed S)
  | 0,listed,S=>by
    show aw (fun K:St→Prop=>jt C pl aj ws 0 listed S K)
    unfold jt
    split
    · exact aw.ret S
    · exact aw.failN
  | n + 1,listed,S=>by
    show aw (fun K:St→Prop=>jt C pl aj ws (n + 1) listed S K)
    unfold jt
    split
    · exact aw.ret S
    · split
      · exact aw.bind (fF hC) (fun S'=>fh hC n _ S')
      · refine aw.bind (fF hC) (fun S'=>aw.bind (fh hC n _ S') (fun S1=>?_))
        exact Af (fun i=>aw.bind (fF hC) (fun S'=>fh hC n _ S')) _ S1
theorem Ag {C:Ctx} (hC:gd C) {pl:bK} {aj:Array Oper} {ws:List Nat}:∀ (n:Nat) (listed:Array Bool) (S:St),aw (tE C pl aj ws n listed S)
  | 0,listed,S=>fh (pl:=pl) (ws:=ws) hC 0 listed S
  | n + 1,listed,S=>by
    show aw (fun K:St→Prop=>tE C pl aj ws (n + 1) listed S K)
    unfold tE
    split
    · exact aw.bind (fF hC) (fun S'=>Ag hC n _ S')
    · exact fh hC _ _ _
theorem vr {C:Ctx} (hC:gd C) {pl:bK} {aj:Array Oper} {S:St}:aw (wz C pl aj S):=by
  show aw (fun K:St→Prop=>wz C pl aj S K)
  unfold wz
  refine aw.chk ?_
  split
  · exact fh hC _ _ _
  · exact Ag hC _ _ _
theorem sf {C:Ctx} (hC:gd C) {pl:bK}:∀ (c:Code) {S:St},ar (gA C pl c S):=by
  intro c
  induction c with
  | skip=>exact ar.ret Ex.nrm _
  | region id aj draw =>
    intro S
    cases draw with
    | false =>
      show ar (fun (K:Ex→St→Prop)=>rP C pl aj aj.toList S fun S'=>jL pl id S' fun S''=>K .nrm S'')
      exact aw.bind2 (kA hC _ _) (fun S'=>aw.bind2 oF (fun S''=>ar.ret Ex.nrm S''))
    | true =>
      show ar (fun (K:Ex→St→Prop)=>bF (sT pl aj) (wA C.P (cr aj.toList) S fun S1=>wz C pl aj S1 fun S'=>km (cr aj.toList) S' (jL pl id S' fun S''=>K .nrm S'')))
      refine ar.chk (aw.bind2 vq (fun S1=>aw.bind2 (vr hC) (fun S'=>?_)))
      intro K h
      obtain ⟨h1,h2⟩:=lT h
      obtain ⟨S'',h3,h4⟩:=oF _ h1
      exact ⟨_,_,h3,fun K' hk=>h2 _ (h4 _ hk)⟩
  | seq x y ihx ihy =>
    intro S
    show ar (fun (K:Ex→St→Prop)=>gA C pl x S fun e S'=>match e with
      | .nrm=>gA C pl y S' K
      | .ex i=>K (.ex i) S'
      | .ret=>K .ret S')
    refine ar.bind2 ihx (fun e S'=>?_)
    cases e with
    | nrm=>exact ihy
    | ex i=>exact ar.ret _ _
    | ret=>exact ar.ret _ _
  | cond c x y ihx ihy =>
    intro S
    show ar (fun (K:Ex→St→Prop)=>nh c S fun b S'=>match b with
      | true=>gA C pl x S' K
      | false=>gA C pl y S' K)
    refine ar.bind2 BD (fun b S'=>?_)
    cases b with
    | true=>exact ihx
    | false=>exact ihy
  | block id c ih =>
    intro S
    show ar (fun (K:Ex→St→Prop)=>gA C pl c S fun e S'=>match e with
      | .ex i=>match Nat.beq i id with | true=>K .nrm S' | false=>K (.ex i) S'
      | .nrm=>K .nrm S'
      | .ret=>K .ret S')
    refine ar.bind2 ih (fun e S'=>?_)
    cases e with
    | nrm=>exact ar.ret _ _
    | ret=>exact ar.ret _ _
    | ex i =>
      show ar (fun (K:Ex→St→Prop)=>match Nat.beq i id with | true=>K .nrm S' | false=>K (.ex i) S')
      split
      · exact ar.ret _ _
      · exact ar.ret _ _
  | loop c ih=>exact hC.loop _ _ _
  | exit id=>exact ar.ret (Ex.ex id) _
  | ret=>exact ar.ret Ex.ret _
  | _=>exact fun K h=>False.elim h
theorem vu {P:Program} {S:St}:∀ {rs:List ResultVar},aw (wB P S rs)
  | []=>aw.ret _
  | .tmp t::rs=>by
    show aw (fun K=>pJ S.t t fun a=>wB P S rs fun as=>K (a::as))
    exact aw.bind gE (fun a=>aw.bind vu (fun as=>aw.ret (a::as)))
  | .cell c t::rs=>by
    show aw (fun K=>pJ S.t c fun p=>El S p fun row j=>im P t row j fun x=>wB P S rs fun as=>K (x::as))
    exact aw.bind gE (fun a=>ar.bind ug (fun row j=>aw.bind cZ (fun x=>aw.bind vu (fun as=>aw.ret (x::as)))))
theorem EO {as:List AV}:aw (zI as):=by
  unfold zI
  split <;> exact aw.ret _
theorem xR {C:Ctx} (hC:gd C) {f:Nat} {args:List AV} {o:List Ob}:ar (sU C f args o):=by
  show ar (fun K:AV→St→Prop=>sU C f args o K)
  have e:(fun K:AV→St→Prop=>sU C f args o K)=fun K=>uN C f args o K:=by funext K; exact propext xP
  rw [e]
  unfold uN
  split
  · rename_i fn _
    have resDet:∀ {S:St},ar (fun K:AV→St→Prop=>wB C.P S fn.results.toList fun rs=>zI rs fun r=>K r S):=fun {S}=>aw.bind2 vu (fun rs=>aw.bind2 EO (fun r=>ar.ret r S))
    split
    · have e2:∀ (p:bK) (k:bK→(AV→St→Prop)→Prop),(fun K=>Bl p fun pl=>k pl K)=fun K=>k p K:=fun p k=>by funext K; exact propext vg
      rw [e2]
      refine ar.bind2 (sf hC _) (fun e S=>?_)
      cases e with
      | ex i=>exact ar.failN
      | nrm=>exact resDet
      | ret=>exact resDet
    · exact ar.failN
  · exact ar.failN
theorem sg {C:Ctx} (hC:gd C) {f:Nat} {args:List AV}:aw (qz C f args):=ar.bind (xR hC) (fun _ _=>ky)
theorem vw {C:Ctx} (hC:gd C) {f:Nat} {args:List AV} {o:List Ob}:ar (rR C f args o):=by
  show ar (fun (K:AV→List Ob→Prop)=>sU C f args o fun r S=>bF (tz 4 r&&Nat.beq S.b o.length) (K r S.o))
  exact ar.bind2 (xR hC) (fun _ _=>ar.chk (ar.ret _ _))
structure H7 (cfg:oR):Prop where
  sound:∀ f args o K,cfg.xc f args o K→pf cfg.P f args o K
  det:∀ f args o,ar (cfg.xc f args o)
  pure:∀ f args r,cfg.xq f args=some r→Br cfg.P f args r
theorem H7.none {cfg:oR} (h:cfg.xc=fun _ _ _ _=>False) (hq:cfg.xq=fun _ _=>none):H7 cfg:=⟨fun f args o K hk=>(by rw [h] at hk; exact hk.elim),fun f args o=>(by rw [h]; exact ar.failN (n:=0)),fun f args r e=>(by rw [hq] at e; cases e)⟩
theorem lU {cfg:oR} (hX:H7 cfg):∀ n,gd (f9 cfg n)
  | 0=>⟨fun _ _=>aw.failN (n:=123),fun _ _ _=>ar.failN (n:=124),fun _ _ _=>ar.failN (n:=125)⟩
  | n + 1=>⟨fun f args=>by
      show aw fun K=>match cfg.xq f args with | some r=>K r | none=>qz (f9 cfg n) f args K
      cases cfg.xq f args with
      | some r=>exact aw.ret r
      | none=>exact sg (lU hX n),fun f args o=>by
      show ar fun K=>match cfg.xs f with | true=>cfg.xc f args o K | false=>rR (f9 cfg n) f args o K
      cases cfg.xs f with
      | true=>exact hX.det _ _ _
      | false=>exact vw (lU hX n),fun pl c S=>by
      have e0:(fun (K:Ex→St→Prop)=>uM (f9 cfg n) fun C=>gA C pl c S fun e S'=>match e with
        | .nrm=>C.loop pl c S' K
        | .ex i=>K (.ex i) S'
        | .ret=>K .ret S')=fun K=>gA (f9 cfg n) pl c S fun e S'=>match e with
        | .nrm=>(f9 cfg n).loop pl c S' K
        | .ex i=>K (.ex i) S'
        | .ret=>K .ret S':=by funext K; exact propext p1
      show ar (fun (K:Ex→St→Prop)=>uM (f9 cfg n) fun C=>gA C pl c S fun e S'=>match e with
        | .nrm=>C.loop pl c S' K
        | .ex i=>K (.ex i) S'
        | .ret=>K .ret S')
      rw [e0]
      refine ar.bind2 (sf (lU hX n) c) (fun e S'=>?_)
      cases e with
      | nrm=>exact (lU hX n).loop _ _ _
      | ex i=>exact ar.ret _ _
      | ret=>exact ar.ret _ _⟩
theorem vy {cfg:oR} (hX:H7 cfg) (n:Nat):vh (f9 cfg n):=fun f args K h=>by
  obtain ⟨r,h1,h2⟩:=sg (lU hX n) K h
  exact ⟨r,h1,h2 _ rfl⟩
def iG (S:St) (dst:Option Tmp) (v:AV) (m:Option St):St :=
  kn (match m with | none=>S | some M=>fe S M) dst v
def jN (S S2:St):Prop:=S2.l=S.l∧S2.o=S.o∧S2.b=S.b
theorem jN.refl (S:St):jN S S:=⟨rfl,rfl,rfl⟩
theorem jN.symm {S S2:St} (h:jN S S2):jN S2 S:=⟨h.1.symm,h.2.1.symm,h.2.2.symm⟩
theorem jN.trans {S S2 S3:St} (h:jN S S2) (k:jN S2 S3):jN S S3:=⟨k.1.trans h.1,k.2.1.trans h.2.1,k.2.2.trans h.2.2⟩
def nP (xs:List Operand) (S S2:St):Prop:=∀ d,Operand.tmp d∈xs→S2.t[d]?=S.t[d]?
theorem BF {S S2:St} {x:Operand} {k:AV→Prop} (h:cI S x k) (ha:∀ d,x=.tmp d→S2.t[d]?=S.t[d]?):cI S2 x k:=by
  unfold cI at *
  split at h
  · rename_i d
    obtain ⟨c,hc,hk⟩:=ca.1 h
    exact ca.2 ⟨c,by rw [ha d rfl]; exact hc,hk⟩
  · exact h
  · exact h
  · exact h
theorem gX {S S2:St}:∀ {xs:List Operand} {k:List AV→Prop},dk S xs k→nP xs S S2→dk S2 xs k
  | [],_,h,_=>h
  | x::xs,k,h,ha=>by
    obtain ⟨c,h1,h2⟩:=cb _ h
    have hx:cI S2 x fun a=>dk S2 xs fun as=>k (a::as):=by
      refine BF (S:=S) (h2 _ ?_) (fun d e=>ha d (by rw [← e]; exact List.mem_cons_self))
      exact gX h1 (fun d hd=>ha d (List.mem_cons_of_mem _ hd))
    exact hx
def Looks (site:Option Nat) (S S2:St):Prop :=
  match site with
  | some r=>aJ S2.l r=aJ S.l r
  | none=>S2.o=S.o
def qU (site:Option Nat) (S M:St):Prop :=
  match site with
  | some r'=>M.o=S.o∧∀ r,r≠r'→aJ M.l r=aJ S.l r
  | none=>M.l=S.l
theorem Looks.of {site:Option Nat} {S S2:St} (h:jN S S2):Looks site S S2:=by
  cases site with
  | some r=>show aJ S2.l r=_; rw [h.1]
  | none=>exact h.2.1
theorem Looks.symm {site:Option Nat} {S S2:St} (h:Looks site S S2):Looks site S2 S:=by
  cases site with
  | some r=>exact Eq.symm h
  | none=>exact Eq.symm h
theorem Looks.trans {site:Option Nat} {S S2 S3:St} (h:Looks site S S2) (k:Looks site S2 S3):Looks site S S3:=by
  cases site with
  | some r=>exact Eq.trans k h
  | none=>exact Eq.trans k h
def tU (pl:bK) (aj:Array Oper) (o:Oper) (S S2:St):Prop :=
  (fx pl o=1→Looks (fy pl aj o) S S2)∧(fx pl o=2→jN S S2)
theorem tU.of {pl:bK} {aj:Array Oper} {o:Oper} {S S2:St} (h:jN S S2):tU pl aj o S S2:=⟨fun _=>.of h,fun _=>h⟩
def tV (pl:bK) (aj:Array Oper) (o:Oper) (S:St) (m:Option St):Prop :=
  (fx pl o≠2→m=none)∧∀ M,m=some M→qU (fy pl aj o) S M
def Jg (C:Ctx) (pl:bK) (aj:Array Oper) (o:Oper) (S:St) (v:AV) (m:Option St):Prop :=
  tV pl aj o S m∧∀ S2,nP o.op.operands.toList S S2→tU pl aj o S S2→∀ K2:St→Prop,K2 (iG S2 o.dst v m)→pM C pl aj o S2 K2
theorem Ah {S S2:St} (h:jN S S2):cL S2=cL S:=by
  unfold cL
  rw [h.1,h.2.1,h.2.2]
theorem BG {o:Oper} {t:Nat} (h:addrOf o=some t):Operand.tmp t∈o.op.operands.toList:=by
  unfold addrOf at h
  split at h
  · rename_i ty x ho
    cases h
    rw [ho]
    simp [Op.operands]
  · rename_i ty x y ho
    cases h
    rw [ho]
    simp [Op.operands]
  · cases h
theorem yV {pl:bK} {aj:Array Oper} {o:Oper} {S S2:St} (ha:nP o.op.operands.toList S S2):iW pl aj o S2=iW pl aj o S:=by
  unfold iW
  cases ht:addrOf o with
  | none=>rfl
  | some t =>
    dsimp only
    rw [ha t (BG ht)]
theorem p_ {pl:bK} {aj:Array Oper} {o:Oper} {S:St} {t:Nat} (h:iW pl aj o S=true) (ht:addrOf o=some t):∃ c,S.t[t]?=some c∧nt c (fy pl aj o)=true:=by
  unfold iW at h
  rw [ht] at h
  dsimp only at h
  split at h
  · rename_i c hc
    exact ⟨c,hc,h⟩
  · cases h
theorem nQ {c:AV} {r:Nat} (h:nt c (some r)=true):∃ i j,c=.ptr (.L r) i j:=by
  unfold nt at h
  split at h
  · rename_i d i j r' hr
    cases hr
    have:=Nat.eq_of_beq_eq_true h
    subst this
    exact ⟨i,j,rfl⟩
  · rename_i hr; cases hr
  · rename_i hr; cases hr
  · cases h
theorem tg {c:AV} (h:nt c none=true):(∃ id i j,c=.ptr (.O id) i j)∨∃ row j,c=.fptr row j:=by
  unfold nt at h
  split at h
  · rename_i hr; cases hr
  · rename_i id i j _; exact .inl ⟨id,i,j,rfl⟩
  · rename_i row j _; exact .inr ⟨row,j,rfl⟩
  · cases h
theorem EP {C:Ctx} {o:Oper} {ty:TypeId} {x:Operand} (ho:o.op=.load ty x) {r i j:Nat} {M M2:St} (h:aJ M2.l r=aJ M.l r) {k:AV→Prop} (hk:oQ C o [.ptr (.L r) i j] M k):oQ C o [.ptr (.L r) i j] M2 k:=by
  unfold oQ at hk ⊢
  rw [ho] at hk ⊢
  unfold El wy at hk ⊢
  dsimp only at hk ⊢
  rw [h]
  exact hk
theorem xS {C:Ctx} {o:Oper} {ty:TypeId} {x:Operand} (ho:o.op=.load ty x) {c:AV} (hc:nt c none=true) {M M2:St} (h:M2.o=M.o) {k:AV→Prop} (hk:oQ C o [c] M k):oQ C o [c] M2 k:=by
  unfold oQ at hk ⊢
  rw [ho] at hk ⊢
  rcases tg hc with ⟨id,i,j,rfl⟩ | ⟨row,j,rfl⟩
  · unfold El wy at hk ⊢
    dsimp only at hk ⊢
    rw [h]
    exact hk
  · exact hk
theorem Gg {size:Nat} {x:AV} {S S2:St} (h:S2.o=S.o) {k:Bool→List (List AV)→Prop}:jq size S x k→jq size S2 x k:=by
  obtain ⟨t,l,oo,b⟩:=S
  obtain ⟨t2,l2,oo2,b2⟩:=S2
  have h':oo2=oo:=h
  subst h'
  unfold jq
  split <;> exact fun h=>h
theorem Ai {P:Program} {src dst:TypeId} {x:AV} {S S2:St} (h:S2.o=S.o) {k:AV→Prop}:ft P src dst x S k→ft P src dst x S2 k:=by
  unfold ft
  split
  · split
    · intro hk
      obtain ⟨h1,h2⟩:=ac hk
      exact al h1 (Gg h h2)
    · exact fun h=>h
  · exact fun h=>h
theorem Il {C:Ctx} {o:Oper} (ho:∀ ty x,o.op≠.load ty x) {vs:List AV} {M M2:St} (h:M2.o=M.o) {k:AV→Prop}:oQ C o vs M k→oQ C o vs M2 k:=by
  obtain ⟨t,l,oo,b⟩:=M
  obtain ⟨t2,l2,oo2,b2⟩:=M2
  have h':oo2=oo:=h
  subst h'
  unfold oQ
  split
  all_goals first
    | exact fun h=>h
    | exact Ai rfl
    | (exfalso; rename_i h1; exact ho _ _ h1)
    | (exfalso; rename_i h1 _; exact ho _ _ h1)
theorem vz {S:St} {g:Nat} {xs:List Operand} {k:List AV→Prop} (h:dk S (.global g::xs) k):∃ row,dk S xs fun as=>k (.fptr row 0::as):=by
  have h':cI S (.global g) fun a=>dk S xs fun as=>k (a::as):=h
  cases hg:He g with
  | none=>simp only [cI,hg] at h'; exact False.elim h'
  | some row=>simp only [cI,hg] at h'; exact ⟨row,h'⟩
theorem xT {S:St} {t:Nat} {k:List AV→Prop} {a:AV} (ha:S.t[t]?=some a) (h:dk S [.tmp t] k):k [a]:=by
  obtain ⟨c,hc,h⟩:=ca.1 h
  rw [ha] at hc
  cases hc
  exact h
theorem xU {S:St} {t:Nat} {y:Operand} {k:List AV→Prop} {a:AV} (ha:S.t[t]?=some a) (h:dk S [.tmp t,y] k):∃ b,k [a,b]:=by
  obtain ⟨c,hc,h⟩:=ca.1 h
  rw [ha] at hc
  cases hc
  obtain ⟨b,h1,_⟩:=cb _ h
  exact ⟨b,h1⟩
theorem EQ {C:Ctx} {o:Oper} {c:AV} {site:Option Nat} {y:AV} {M:St} {k:AV→St→Prop} (hs:nt c site=true) (h:xt C o [c,y] M k):xt C o [c,y] M fun v M'=>k v M'∧qU site M M':=by
  obtain ⟨v,M',h1,h2⟩:=k8 _ h
  refine h2 _ ⟨h1,?_⟩
  have h3:=h2 (fun _ M''=>M''=M') rfl
  unfold xt at h3
  split at h3
  · rename_i ty X Y p z ho e
    cases e
    obtain ⟨cs,h4,_⟩:=b5 _ h3
    split at h4
    · obtain ⟨_,h4⟩:=ac h4
      cases site with
      | some r' =>
        obtain ⟨i,j,rfl⟩:=nQ hs
        unfold lh at h4
        dsimp only at h4
        split at h4
        · rename_i row hrow
          split at h4
          · obtain ⟨_,h4⟩:=ac h4
            rw [dx,iu] at h4
            subst h4
            refine ⟨rfl,fun r hr=>?_⟩
            show aJ (qw M.l r' _) r=_
            rw [i1 hrow,if_neg (fun e=>hr e.symm)]
          · exact False.elim h4
        · exact False.elim h4
      | none =>
        rcases tg hs with ⟨id,i,j,rfl⟩ | ⟨row,j,rfl⟩
        · unfold lh at h4
          dsimp only at h4
          split at h4
          · split at h4
            · obtain ⟨_,h4⟩:=ac h4
              rw [dx,az] at h4
              subst h4
              rfl
            · exact False.elim h4
          · exact False.elim h4
        · exact False.elim h4
    · exact False.elim h4
  · exact False.elim h3
theorem vB {P:Program} {t:TypeId} {l c:AV} {M:St} {k:St→AV→Prop} (h:bZ P t l c M k):bZ P t l c M fun M' r=>k M' r∧M'.l=M.l:=by
  obtain ⟨M',r,h1,h2⟩:=fT _ h
  refine h2 _ ⟨h1,?_⟩
  have h3:=h2 (fun M'' _=>M''=M') rfl
  unfold bZ at h3
  split at h3
  · split at h3
    · obtain ⟨n,h4,_⟩:=ba _ h3
      obtain ⟨m,h5,_⟩:=ba _ h4
      obtain ⟨_,h5⟩:=ac h5
      obtain ⟨z,h6,_⟩:=aM _ h5
      obtain ⟨_,h6⟩:=ac h6
      rw [az] at h6
      rw [← h6]
    · exact False.elim h3
  · exact False.elim h3
theorem vC {M:St} {pk:Bool} {id i:Nat} {k:AV→St→Prop} (h:ff M pk id i k) (hk:∀ v M',M'.l=M.l→k v M'→False):False:=by
  unfold ff at h
  split at h
  · split at h
    · exact hk _ _ (by rfl) h
    · split at h
      · exact hk _ _ (by rfl) h
      · rw [b3,az] at h
        exact hk _ _ (by rfl) h
    · exact h
  · exact h
theorem BH {P:Program} {t:TypeId} {same pk:Bool} {M:St} {id i:Nat} {k:AV→St→Prop} (h:ip P t same pk M id i k) (hk:∀ v M',M'.l=M.l→k v M'→False):False:=by
  unfold ip at h
  split at h
  · split at h
    · obtain ⟨_,h⟩:=ac h
      obtain ⟨r,h,_⟩:=cZ _ h
      exact hk _ _ (by rfl) h
    · exact h
  · refine vC h (fun v M' e h=>?_)
    obtain ⟨r,h,_⟩:=cZ _ h
    exact hk _ _ e h
theorem Aj {P:Program} {t:TypeId} {M:St} {id i:Nat} {v:AV} {K:St→Prop} (h:f7 P t M id i v K) (hk:∀ M',M'.l=M.l→K M'→False):False:=by
  unfold f7 at h
  split at h
  · obtain ⟨_,h⟩:=ac h
    rw [az] at h
    exact hk _ (by rfl) h
  · exact h
theorem BI {P:Program} {t:TypeId} {nw:Bool} {j:Nat} {l c:AV} {M:St} {k:AV→St→Prop} (h:gz P nw j t l c M k) (hk:∀ v M',M'.l=M.l→k v M'→False):False:=by
  unfold gz at h
  split at h
  · split at h
    · split at h
      · obtain ⟨n,h,_⟩:=ba _ h
        obtain ⟨m,h,_⟩:=ba _ h
        obtain ⟨_,h⟩:=ac h
        obtain ⟨z,h,_⟩:=aM _ h
        split at h
        · obtain ⟨_,h,_⟩:=gN _ h
          exact hk _ _ (by rfl) h
        · exact h
      · exact h
    · exact h
  · exact h
theorem wR {P:Program} {t:TypeId} {M:St} {k:AV→St→Prop} (h:fR P t M k) (hk:∀ v M',M'.l=M.l→k v M'→False):False:=by
  unfold fR at h
  split at h
  · split at h
    · split at h
      · obtain ⟨_,h⟩:=ac h
        rw [az] at h
        exact hk _ _ (by rfl) h
      · exact h
    · exact h
  · exact h
theorem BJ {P:Program} {t:TypeId} {m key:AV} {ok:Bool} {M:St} {k:AV→St→Prop} (h:iq P t m key ok M k) (hk:∀ v M',M'.l=M.l→k v M'→False):False:=by
  unfold iq at h
  split at h
  · split at h
    · split at h
      · obtain ⟨x,r,h,_⟩:=c6 _ h
        split at h
        · refine vC h (fun v M' e h=>?_)
          obtain ⟨r,h,_⟩:=fw _ h
          exact hk _ _ e h
        · obtain ⟨r,h,_⟩:=et _ h
          exact hk _ _ (by rfl) h
      · exact h
    · exact h
  · exact h
theorem xV {P:Program} {t:TypeId} {m key x:AV} {M:St} {K:St→Prop} (h:ji P t m key x M K) (hk:∀ M',M'.l=M.l→K M'→False):False:=by
  unfold ji at h
  split at h
  · split at h
    · split at h
      · obtain ⟨_,h⟩:=ac h
        obtain ⟨x,r,h,_⟩:=c6 _ h
        obtain ⟨_,h⟩:=ac h
        split at h
        · obtain ⟨_,h⟩:=ac h
          rw [az] at h
          exact hk _ (by rfl) h
        · split at h
          · rw [az] at h
            exact hk _ (by rfl) h
          · exact h
      · exact h
    · exact h
  · exact h
theorem Ak {M:St} {x:AV} {X:Nat→Nat→Prop} (h:iV M x X) (hk:∀ id i,X id i→False):False:=by
  unfold iV at h
  split at h
  · split at h
    · exact hk _ _ h
    · exact h
  · exact h
theorem Hp {P:Program} {pl:bK} {o:Oper} {vs:List AV} {M:St} {k:AV→St→Prop} (h:kP P pl o vs M k) (hk:∀ v M',M'.l=M.l→k v M'→False):False:=by
  unfold kP at h
  split at h
  · exact Ak h (fun _ _ h=>BH h hk)
  · exact Ak h (fun _ _ h=>Aj h (fun M' e h=>hk _ _ e h))
  · exact BI h hk
  · exact wR h hk
  · exact BJ h hk
  · exact xV h (fun M' e h=>hk _ _ e h)
  · exact xV h (fun M' e h=>hk _ _ e h)
  · exact h
theorem DG {P:Program} {pl:bK} {o:Oper} {vs:List AV} {M:St} {k:AV→St→Prop} (h:kP P pl o vs M k):kP P pl o vs M fun v M'=>k v M'∧M'.l=M.l:=by
  obtain ⟨v,M',h1,h2⟩:=vo _ h
  refine h2 _ ⟨h1,?_⟩
  by_cases e:M'.l=M.l
  · exact e
  · exact (Hp (h2 (fun _ M''=>M''.l≠M.l) e) (fun _ _ e h=>h e)).elim
theorem ER {P:Program} {pl:bK} {o:Oper} {x:AV} {vs:List AV} {M:St} {k:AV→St→Prop} (h:kP P pl o (x::vs) M k) (ht:(addrOf o).isSome=true):∀ d i j,x≠.ptr (.L d) i j:=by
  intro d i j e
  subst e
  unfold kP at h
  unfold addrOf at ht
  split at h
  · rename_i he
    cases he
    exact h
  · rename_i he
    cases he
    exact h
  · rename_i ho _
    rw [ho] at ht
    cases ht
  · rename_i he
    cases he
  · rename_i ho _
    rw [ho] at ht
    cases ht
  · rename_i ho _
    rw [ho] at ht
    cases ht
  · rename_i ho _
    rw [ho] at ht
    cases ht
  · exact h
def xW (pl:bK) (o:Oper):Prop:=((∃ t X Y,o.op=.makeSlice t X Y)∨∃ c,o.op=.call c)∨fQ pl o=true
theorem xX {pl:bK} {o:Oper} (h:¬ xW pl o):fQ pl o=false:=by
  cases e:fQ pl o with
  | false=>rfl
  | true=>exact absurd (.inr e) h
theorem xY {pl:bK} {o:Oper} (h:fx pl o≠2):fQ pl o=false:=by
  cases e:fQ pl o with
  | false=>rfl
  | true=>exact absurd (by unfold fx; rw [e]) h
theorem qa {C:Ctx} {pl:bK} {o:Oper} {vs:List AV} {M:St} {k:AV→St→Prop} (h:¬ xW pl o):mi C pl o vs M k=xt C o vs M k:=by
  unfold mi
  rw [xX h]
  dsimp only
  unfold kV
  split
  · rename_i t X Y l c ho
    exact absurd (.inl (.inl ⟨t,X,Y,ho⟩)) h
  · rename_i c _ _ _ _ ho
    exact absurd (.inl (.inr ⟨c,ho⟩)) h
  · rfl
theorem DJ {C:Ctx} (hC:gd C) {pl:bK} {o:Oper} {vs:List AV} {M:St} {k:AV→St→Prop} (hm:xW pl o) (h:mi C pl o vs M k):mi C pl o vs M fun v M'=>k v M'∧M'.l=M.l:=by
  unfold mi at h ⊢
  cases e:fQ pl o with
  | true =>
    rw [e] at h
    exact DG h
  | false =>
    rw [e] at h
    have hm:(∃ t X Y,o.op=.makeSlice t X Y)∨∃ c,o.op=.call c:=by
      rcases hm with hm | hm
      · exact hm
      · rw [e] at hm; cases hm
    dsimp only at h ⊢
    unfold kV at h ⊢
    split at h
    · rename_i t' X' Y' l c ho'
      exact vB h
    · split at h
      · obtain ⟨h1,h⟩:=ac h
        refine al h1 ?_
        obtain ⟨r,o',h2,h3⟩:=hC.scall _ _ _ _ h
        refine h3 _ ?_
        obtain ⟨h4,h5⟩:=ac h2
        exact al h4 ⟨h5,rfl⟩
      · exact h.elim
    · exfalso
      unfold xt at h
      split at h
      · rename_i heq x1 x2
        rcases hm with ⟨t,X,Y,ho⟩ | ⟨c,ho⟩ <;> (rw [ho] at heq; cases heq)
      · exact h
theorem ES {pl:bK} {o:Oper} {ty:TypeId} {x:Operand} (hw:fQ pl o=false) (ho:o.op=.load ty x):fx pl o=1:=by
  unfold fx
  rw [hw]
  dsimp only
  unfold xu
  rw [ho]
  dsimp only
  unfold Ew
  rw [ho]
theorem DK {pl:bK} {o:Oper} {ty:TypeId} {x y:Operand} (hw:fQ pl o=false) (ho:o.op=.store ty x y):fx pl o=2:=by
  unfold fx
  rw [hw]
  dsimp only
  unfold xu
  rw [ho]
  dsimp only
  unfold Ew
  rw [ho]
theorem BK {C:Ctx} {pl:bK} {aj:Array Oper} {o:Oper} {S:St} {vs:List AV} {k:AV→St→Prop} (hm:xW pl o) (hkey:iW pl aj o S=true) (hget:dk S o.op.operands.toList (fun x=>x=vs)) (h:mi C pl o vs (cL S) k):fy pl aj o=none:=by
  cases ht:addrOf o with
  | none=>unfold fy; rw [ht]
  | some t =>
    obtain ⟨c,hc1,hc2⟩:=p_ hkey ht
    cases hs:fy pl aj o with
    | none=>rfl
    | some r =>
      exfalso
      rw [hs] at hc2
      obtain ⟨i,j,rfl⟩:=nQ hc2
      have hw:fQ pl o=true:=by
        rcases hm with (⟨t',X,Y,ho⟩ | ⟨c,ho⟩) | hm
        · unfold addrOf at ht; rw [ho] at ht; cases ht
        · unfold addrOf at ht; rw [ho] at ht; cases ht
        · exact hm
      unfold mi at h
      rw [hw] at h
      dsimp only at h
      have hx:∃ ys,vs=.ptr (.L r) i j::ys:=by
        unfold addrOf at ht
        split at ht
        · rename_i ty x ho
          cases ht
          have hop:o.op.operands.toList=[.tmp t]:=by rw [ho]; simp [Op.operands]
          rw [hop] at hget
          exact ⟨[],(xT hc1 hget).symm⟩
        · rename_i ty x y ho
          cases ht
          have hop:o.op.operands.toList=[.tmp t,y]:=by rw [ho]; simp [Op.operands]
          rw [hop] at hget
          obtain ⟨b,hb⟩:=xU hc1 hget
          exact ⟨[b],hb.symm⟩
        · cases ht
      obtain ⟨ys,rfl⟩:=hx
      exact ER h (by rw [ht]; rfl) r i j rfl
theorem DL {pl:bK} {o:Oper} {t:Nat} (h:addrOf o=some t) (hc:fx pl o=1):∃ ty,o.op=.load ty (.tmp t):=by
  unfold addrOf at h
  split at h
  · rename_i ty x ho
    cases h
    exact ⟨ty,ho⟩
  · rename_i ty x y ho
    rw [DK (xY (by rw [hc]; decide)) ho] at hc
    cases hc
  · cases h
theorem BM {pl:bK} {o:Oper} {t:Nat} (h:addrOf o=some t) (hw:fQ pl o=false) (hc:fx pl o=2):∃ ty y,o.op=.store ty (.tmp t) y:=by
  unfold addrOf at h
  split at h
  · rename_i ty x ho
    rw [ES hw ho] at hc
    cases hc
  · rename_i ty x y ho
    cases h
    exact ⟨ty,y,ho⟩
  · cases h
theorem Cr {C:Ctx} (hC:gd C) {pl:bK} {aj:Array Oper} {o:Oper} {S:St} {K:St→Prop} (hez:Bi (fx pl o)=true) (h:pM C pl aj o S K):∃ v m,Jg C pl aj o S v m∧K (iG S o.dst v m):=by
  obtain ⟨hkey,h⟩:=ac h
  have fin:∀ {S2:St} {K2:St→Prop},nP o.op.operands.toList S S2→wx C pl o S2 K2→pM C pl aj o S2 K2:=fun ha h=>al (by rw [yV ha]; exact hkey) h
  unfold wx at h
  split at h
  · rename_i hc
    obtain ⟨vs,h1,h2⟩:=aZ _ h
    obtain ⟨r,h3,h4⟩:=uh _ h1
    rw [aE] at h3
    refine ⟨r,none,⟨⟨fun _=>rfl,fun M e=>by cases e⟩,fun S2 ha _ K2 hk=>fin ha ?_⟩,h3⟩
    unfold wx
    rw [hc]
    refine gX (S:=S) (h2 (fun vs=>pop C pl o vs fun r=>bB o.dst r S2 K2) (h4 _ ?_)) ha
    rw [aE]
    exact hk
  · rename_i hc
    obtain ⟨vs,h1,h2⟩:=aZ _ h
    obtain ⟨r,h3,h4⟩:=ui hC _ h1
    rw [aE] at h3
    refine ⟨r,none,⟨⟨fun _=>rfl,fun M e=>by cases e⟩,fun S2 ha hm K2 hk=>fin ha ?_⟩,h3⟩
    unfold wx
    rw [hc]
    have h5:=h4 (fun r=>bB o.dst r S2 K2) (by rw [aE]; exact hk)
    have hm1:=hm.1 hc
    refine gX (S:=S) (h2 (fun vs=>oQ C o vs (cL S2) fun r=>bB o.dst r S2 K2) ?_) ha
    cases ht:addrOf o with
    | some t =>
      obtain ⟨c,hc1,hc2⟩:=p_ hkey ht
      obtain ⟨ty,ho⟩:=DL ht hc
      have hop:o.op.operands.toList=[.tmp t]:=by rw [ho]; simp [Op.operands]
      have hvs:vs=[c]:=by
        have:=h2 (fun x=>x=vs) rfl
        rw [hop] at this
        exact (xT hc1 this).symm
      subst hvs
      cases hs:fy pl aj o with
      | some r =>
        rw [hs] at hm1 hc2
        obtain ⟨i,j,rfl⟩:=nQ hc2
        exact EP ho (M:=cL S) hm1 h5
      | none =>
        rw [hs] at hm1 hc2
        exact xS ho hc2 (M:=cL S) hm1 h5
    | none =>
      have hs:fy pl aj o=none:=by unfold fy; rw [ht]
      rw [hs] at hm1
      by_cases hl:∃ ty x,o.op=.load ty x
      · obtain ⟨ty,x,ho⟩:=hl
        have hop:o.op.operands.toList=[x]:=by rw [ho]; simp [Op.operands]
        by_cases hglob:∃ g,x=.global g
        · obtain ⟨g,rfl⟩:=hglob
          have hv:=h2 (fun x=>x=vs) rfl
          rw [hop] at hv
          obtain ⟨row,hv⟩:=vz hv
          have hv':[AV.fptr row 0]=vs:=hv
          subst hv'
          exact xS ho rfl (M:=cL S) hm1 h5
        exfalso
        cases x with
        | tmp t=>unfold addrOf at ht; rw [ho] at ht; cases ht
        | const cc =>
          have hv:=h2 (fun x=>x=vs) rfl
          rw [hop] at hv
          have hv':vs=[De cc]:=by
            have:iT (De cc) (fun a=>[a]=vs):=hv
            rw [b3] at this
            exact this.symm
          subst hv'
          have h6:=h1
          unfold oQ at h6
          rw [ho] at h6
          have h7:El (cL S) (De cc) fun row j=>im C.P ty row j fun r=>bB o.dst r S K:=h6
          have hno:∀ c:Value,(∀ k i j,De c≠.ptr k i j)∧∀ r j,De c≠.fptr r j:=by
            intro c
            refine ⟨fun k i j=>?_,fun r j=>?_⟩ <;>
            · unfold De
              split
              · intro h; cases h
              · unfold uB
                split <;> intro h <;> cases h
          unfold El at h7
          split at h7
          · rename_i k i j he; exact (hno cc).1 _ _ _ he
          · rename_i r j he; exact (hno cc).2 _ _ he
          · exact h7
        | func f =>
          have hv:=h2 (fun x=>x=vs) rfl
          rw [hop] at hv
          have hv':[AV.fn f [] []]=vs:=hv
          subst hv'
          have h6:=h1
          unfold oQ at h6
          rw [ho] at h6
          exact h6
        | global g=>exact hglob ⟨g,rfl⟩
      · exact Il (fun ty x he=>hl ⟨ty,x,he⟩) (M:=cL S) hm1 h5
  · rename_i hc
    obtain ⟨vs,h1,h2⟩:=aZ _ h
    by_cases hmk:xW pl o
    · obtain ⟨r,M,⟨h3,h5⟩,h4⟩:=Ad hC _ (DJ hC hmk h1)
      rw [aE] at h3
      refine ⟨r,some M,⟨⟨fun hn=>absurd hc hn,fun M' e=>?_⟩,fun S2 ha hm K2 hk=>fin ha ?_⟩,h3⟩
      · cases e
        rw [BK hmk hkey (h2 (fun x=>x=vs) rfl) h1]
        exact h5
      · unfold wx
        rw [hc]
        have hm':=Ah (hm.2 hc)
        refine gX (S:=S) (h2 (fun vs=>mi C pl o vs (cL S2) fun r M=>bB o.dst r (fe S2 M) K2) ?_) ha
        rw [hm']
        refine h4 _ ?_
        rw [aE]
        exact hk
    rw [qa hmk] at h1
    have hkeep:xt C o vs (cL S) fun v M'=>(fun v M=>bB o.dst v (fe S M) K) v M'∧(∀ t,addrOf o=some t→qU (fy pl aj o) S M'):=by
      cases ht:addrOf o with
      | none =>
        obtain ⟨r,M,h3,h4⟩:=k8 _ h1
        exact h4 _ ⟨h3,fun t e=>by cases e⟩
      | some t =>
        obtain ⟨c,hc1,hc2⟩:=p_ hkey ht
        obtain ⟨ty,y,ho⟩:=BM ht (xX hmk) hc
        have hop:o.op.operands.toList=[.tmp t,y]:=by rw [ho]; simp [Op.operands]
        have hvs:∃ b,vs=[c,b]:=by
          have:=h2 (fun x=>x=vs) rfl
          rw [hop] at this
          obtain ⟨b,hb⟩:=xU hc1 this
          exact ⟨b,hb.symm⟩
        obtain ⟨b,rfl⟩:=hvs
        obtain ⟨r,M,h3,h4⟩:=k8 _ (EQ hc2 h1)
        exact h4 _ ⟨h3.1,fun t' _=>(show qU (fy pl aj o) (cL S) M from h3.2)⟩
    obtain ⟨r,M,⟨h3,h5⟩,h4⟩:=k8 _ hkeep
    rw [aE] at h3
    refine ⟨r,some M,⟨⟨fun hn=>absurd hc hn,fun M' e=>?_⟩,fun S2 ha hm K2 hk=>fin ha ?_⟩,h3⟩
    · cases e
      cases ht:addrOf o with
      | some t=>exact h5 t ht
      | none =>
        exfalso
        have h6:=h4 (fun _ _=>True) trivial
        unfold xt at h6
        split at h6
        · rename_i ty X Y p z ho
          cases X with
          | tmp t=>unfold addrOf at ht; rw [ho] at ht; cases ht
          | const cc =>
            have hv:=h2 (fun x=>x=[p,z]) rfl
            have hop:o.op.operands.toList=[.const cc,Y]:=by rw [ho]; simp [Op.operands]
            rw [hop] at hv
            have hv':iT (De cc) fun a=>cI S Y fun b=>[a,b]=[p,z]:=hv
            rw [b3] at hv'
            obtain ⟨b,hb,_⟩:=cb _ hv'
            cases hb
            obtain ⟨cs,h7,_⟩:=b5 _ h6
            have hno:∀ c:Value,∀ k i j,De c≠.ptr k i j:=by
              intro c k i j
              unfold De
              split
              · intro h; cases h
              · unfold uB
                split <;> intro h <;> cases h
            split at h7
            · obtain ⟨_,h7⟩:=ac h7
              unfold lh at h7
              split at h7
              · rename_i he; exact hno cc _ _ _ he
              · rename_i he; exact hno cc _ _ _ he
              · exact h7
            · exact h7
          | func f =>
            have hv:=h2 (fun x=>x=[p,z]) rfl
            have hop:o.op.operands.toList=[.func f,Y]:=by rw [ho]; simp [Op.operands]
            rw [hop] at hv
            have hv':cI S Y fun b=>[AV.fn f [] [],b]=[p,z]:=hv
            obtain ⟨b,hb,_⟩:=cb _ hv'
            cases hb
            obtain ⟨cs,h7,_⟩:=b5 _ h6
            split at h7
            · obtain ⟨_,h7⟩:=ac h7
              exact h7
            · exact h7
          | global g =>
            have hv:=h2 (fun x=>x=[p,z]) rfl
            have hop:o.op.operands.toList=[.global g,Y]:=by rw [ho]; simp [Op.operands]
            rw [hop] at hv
            obtain ⟨row,hv⟩:=vz hv
            have hv':cI S Y fun b=>[AV.fptr row 0,b]=[p,z]:=hv
            obtain ⟨b,hb,_⟩:=cb _ hv'
            cases hb
            obtain ⟨cs,h7,_⟩:=b5 _ h6
            split at h7
            · obtain ⟨_,h7⟩:=ac h7
              exact h7
            · exact h7
        · exact h6
    · unfold wx
      rw [hc]
      have hm':=Ah (hm.2 hc)
      refine gX (S:=S) (h2 (fun vs=>mi C pl o vs (cL S2) fun r M=>bB o.dst r (fe S2 M) K2) ?_) ha
      rw [hm',qa hmk]
      refine h4 _ ?_
      rw [aE]
      exact hk
  · rename_i hc
    split at h
    · rename_i d hd
      rw [aE] at h
      refine ⟨_,none,⟨⟨fun _=>rfl,fun M e=>by cases e⟩,fun S2 ha _ K2 hk=>fin ha ?_⟩,h⟩
      unfold wx
      rw [hc]
      show match o.dst with
        | some d=>bB o.dst (.ptr (.L d) 0 0) S2 K2
        | none=>af 217
      split
      · rename_i d2 hd2
        rw [hd] at hd2
        cases hd2
        rw [aE]
        exact hk
      · rename_i hd2
        rw [hd] at hd2
        cases hd2
    · exact False.elim h
  · rename_i hc
    obtain ⟨vs,h1,h2⟩:=aZ _ h
    obtain ⟨r,h3,h4⟩:=uj _ h1
    rw [aE] at h3
    refine ⟨r,none,⟨⟨fun _=>rfl,fun M e=>by cases e⟩,fun S2 ha _ K2 hk=>fin ha ?_⟩,h3⟩
    unfold wx
    rw [hc]
    refine gX (S:=S) (h2 (fun vs=>Hg C o vs fun r=>bB o.dst r S2 K2) (h4 _ ?_)) ha
    rw [aE]
    exact hk
  · rename_i h0 h1 h2 h4 h5
    exfalso
    unfold Bi at hez
    split at hez
    · rename_i he; exact h0 he
    · rename_i he; exact h1 he
    · rename_i he; exact h2 he
    · rename_i he; exact h4 he
    · rename_i he; exact h5 he
    · cases hez
theorem yW {S:St} {t:List AV} (h:t=S.t):({ t:=t,l:=S.l,o:=S.o,b:=S.b }:St)=S:=by
  subst h; rfl
theorem fU {t:List AV} {d:Nat} {x:AV} (h:t[d]?=some x):t.set d x=t:=by
  apply List.ext_getElem?
  intro j
  rw [List.getElem?_set]
  by_cases hj:d=j
  · subst hj
    rw [if_pos rfl,if_pos (List.getElem?_eq_some_iff.1 h).1,h]
  · rw [if_neg hj]
def Ct (S:St) (d:Nat) (b:Option Bool):Prop :=
  match b with
  | some b=>S.t[d]?=some (.v (.bool b))
  | none=>S.t[d]?=some (.tup [])
theorem ti {d:Nat} {S:St} {k:Option Bool→St→Prop}:f8 d S k↔∃ b,Ct S d b∧k b S:=by
  constructor
  · intro h
    unfold f8 at h
    rw [ca] at h
    obtain ⟨c,hc,h⟩:=h
    split at h
    · rename_i b
      rcases lO h with ⟨hb,h2⟩ | ⟨hb,h2⟩
      · subst hb
        rw [d3,yW (fU hc)] at h2
        exact ⟨some true,hc,h2⟩
      · subst hb
        rw [d3,yW (fU hc)] at h2
        exact ⟨some false,hc,h2⟩
    · exact ⟨none,hc,h⟩
    · exact False.elim h
  · rintro ⟨b,hb,h⟩
    unfold f8
    rw [ca]
    cases b with
    | none=>exact ⟨_,hb,h⟩
    | some b =>
      refine ⟨_,hb,?_⟩
      dsimp only
      refine Bn (fun e=>?_) (fun e=>?_)
      · subst e; rw [d3,yW (fU hb)]; exact h
      · subst e; rw [d3,yW (fU hb)]; exact h
def agree (aj:Array Oper) (o:Oper) (S S2:St):Prop:=∀ d∈o.looksAt aj,S2.t[d]?=S.t[d]?
def Eff (C:Ctx) (pl:bK) (aj:Array Oper) (o:Oper) (S:St) (v:AV) (m:Option St):Prop :=
  tV pl aj o S m∧∀ S2,agree aj o S S2→tU pl aj o S S2→∀ K2:St→Prop,K2 (iG S2 o.dst v m)→ag C pl aj o S2 K2
theorem xZ {aj:Array Oper} {o:Oper} {S S2:St} (h:agree aj o S S2):nP o.op.operands.toList S S2:=fun d hd =>
  h d (List.mem_append_left _ (List.mem_filterMap.2 ⟨.tmp d,hd,rfl⟩))
theorem ET {C:Ctx} (hC:gd C) {pl:bK} {aj:Array Oper} {o:Oper} {S:St} {K:St→Prop} (hez:Bi (fx pl o)=true) (h:ag C pl aj o S K):∃ v m,Eff C pl aj o S v m∧K (iG S o.dst v m):=by
  unfold ag at h
  split at h
  · rename_i hg
    obtain ⟨v,m,⟨h1,h2⟩,h3⟩:=Cr hC hez h
    refine ⟨v,m,⟨h1,fun S2 ha hm K2 hk=>?_⟩,h3⟩
    unfold ag
    rw [hg]
    exact h2 S2 (xZ ha) hm K2 hk
  · rename_i j want hg
    split at h
    · exact False.elim h
    · rename_i d hd
      obtain ⟨b,hb,h⟩:=ti.1 h
      have hlook:d∈o.looksAt aj:=List.mem_append_right _ (by
        rw [hg]
        unfold qy at hd
        simp [hd])
      have hin:∀ (S2:St) (K2:St→Prop),agree aj o S S2→gsel b want (pM C pl aj o S2 K2) (bB o.dst (.tup []) S2 K2)→ag C pl aj o S2 K2:=by
        intro S2 K2 ha hk
        unfold ag
        rw [hg]
        dsimp only
        rw [hd]
        refine ti.2 ⟨b,?_,hk⟩
        unfold Ct at hb ⊢
        rw [ha d hlook]
        exact hb
      have yes:pM C pl aj o S K→(∀ (S2:St) (K2:St→Prop),agree aj o S S2→pM C pl aj o S2 K2→ag C pl aj o S2 K2)→∃ v m,Eff C pl aj o S v m∧K (iG S o.dst v m):=by
        intro h hi
        obtain ⟨v,m,⟨h1,h2⟩,h3⟩:=Cr hC hez h
        exact ⟨v,m,⟨h1,fun S2 ha hm K2 hk=>hi S2 K2 ha (h2 S2 (xZ ha) hm K2 hk)⟩,h3⟩
      have no:bB o.dst (.tup []) S K→(∀ (S2:St) (K2:St→Prop),agree aj o S S2→bB o.dst (.tup []) S2 K2→ag C pl aj o S2 K2)→∃ v m,Eff C pl aj o S v m∧K (iG S o.dst v m):=by
        intro h hi
        rw [aE] at h
        exact ⟨.tup [],none,⟨⟨fun _=>rfl,fun M e=>by cases e⟩,fun S2 ha _ K2 hk=>hi S2 K2 ha (by rw [aE]; exact hk)⟩,h⟩
      cases b with
      | none=>exact no h (fun S2 K2 ha hk=>hin S2 K2 ha hk)
      | some b =>
        cases b <;> cases want
        · exact yes h (fun S2 K2 ha hk=>hin S2 K2 ha hk)
        · exact no h (fun S2 K2 ha hk=>hin S2 K2 ha hk)
        · exact no h (fun S2 K2 ha hk=>hin S2 K2 ha hk)
        · exact yes h (fun S2 K2 ha hk=>hin S2 K2 ha hk)
theorem EU {S:St} {dst:Option Tmp} {v:AV} {m:Option St} {d:Nat} (h:dst≠some d):(iG S dst v m).t[d]?=S.t[d]?:=by
  unfold iG kn
  cases dst with
  | none=>cases m <;> rfl
  | some e =>
    have hne:e≠d:=fun he=>h (by rw [he])
    cases m <;> simp [fe,List.getElem?_set_ne hne]
theorem vD {S:St} {dst:Option Tmp} {v:AV}:jN S (iG S dst v none):=by
  unfold iG kn
  cases dst <;> exact ⟨rfl,rfl,rfl⟩
def vE (pl:bK) (aj:Array Oper) (x y:Oper):Prop :=
  fx pl x=2→fx pl y≠2∧(fx pl y=1→iX pl aj x y=true)
theorem tY {pl:bK} {aj:Array Oper} {x y:Oper} (h:iX pl aj x y=true):iX pl aj y x=true:=by
  revert h
  unfold iX
  generalize fy pl aj x=a
  generalize fy pl aj y=b
  intro h
  cases a with
  | none=>cases b with
    | none=>exact h
    | some b=>rfl
  | some a=>cases b with
    | none=>rfl
    | some b =>
      have h':(!(Nat.beq a b))=true:=h
      show (!(Nat.beq b a))=true
      cases hb:Nat.beq b a with
      | false=>rfl
      | true =>
        have:=Nat.eq_of_beq_eq_true hb
        subst this
        rw [hb] at h'
        cases h'
theorem Al {pl:bK} {aj:Array Oper} {x y:Oper} (h:uL pl aj x y=true):x.apart aj y=true∧vE pl aj x y∧vE pl aj y x∧Bi (fx pl x)=true∧Bi (fx pl y)=true:=by
  unfold uL at h
  simp only [Bool.and_eq_true] at h
  refine ⟨h.1,fun e=>⟨fun e2=>?_,fun e2=>?_⟩,fun e=>⟨fun e2=>?_,fun e2=>?_⟩,?_,?_⟩
  · have h2:=h.2
    rw [e,e2] at h2
    simp at h2
  · have h2:=h.2
    rw [e,e2] at h2
    exact h2
  · have h2:=h.2
    rw [e,e2] at h2
    simp at h2
  · have h2:=h.2
    rw [e,e2] at h2
    exact tY h2
  · have h2:=h.2
    revert h2
    split <;> rename_i h3 h4 <;> intro h2 <;> first | (rw [h3]; rfl) | cases h2
  · have h2:=h.2
    revert h2
    split <;> rename_i h3 h4 <;> intro h2 <;> first | (rw [h4]; rfl) | cases h2
theorem DN {S:St} {x y:Option Tmp} {v u:AV} {m n:Option St} (h:∀ d,x=some d→y≠some d) (hm:m=none∨n=none):iG (iG S x v m) y u n=iG (iG S y u n) x v m:=by
  cases x with
  | none=>cases y <;> rcases hm with rfl | rfl <;> first | rfl | (cases m <;> rfl) | (cases n <;> rfl)
  | some d =>
    cases y with
    | none=>rcases hm with rfl | rfl <;> first | (cases m <;> rfl) | (cases n <;> rfl)
    | some e =>
      have hne:d≠e:=fun he=>h d rfl (he▸rfl)
      have hs:(S.t.set d v).set e u=(S.t.set e u).set d v:=List.set_comm _ _ hne
      rcases hm with rfl | rfl
      · cases n <;> simp only [iG,kn,fe,hs]
      · cases m <;> simp only [iG,kn,fe,hs]
theorem EV {S:St} {dst:Option Tmp} {v:AV} {m:Option St}:(iG S dst v m).l=match m with | none=>S.l | some M=>M.l:=by
  unfold iG
  rw [cu]
  cases m <;> rfl
theorem Am {pl:bK} {aj:Array Oper} {x y:Oper} {S:St} {v:AV} {m:Option St} (hk:tV pl aj x S m) (hc:vE pl aj x y):tU pl aj y S (iG S x.dst v m):=by
  cases m with
  | none=>exact .of vD
  | some M =>
    have h2:fx pl x=2:=by
      cases Nat.decEq (fx pl x) 2 with
      | isTrue h=>exact h
      | isFalse h=>have:=hk.1 h; cases this
    obtain ⟨h3,h4⟩:=hc h2
    refine ⟨fun h1=>?_,fun h=>absurd h h3⟩
    have hap:=h4 h1
    have hkm:=hk.2 M rfl
    have hoM:(iG S x.dst v (some M)).o=M.o:=by unfold iG; rw [cv]; rfl
    revert hap hkm
    unfold iX
    generalize fy pl aj x=sx
    generalize fy pl aj y=sy
    intro hap hkm
    cases sx with
    | some a=>cases sy with
      | some b =>
        show aJ _ b=_
        rw [EV]
        refine hkm.2 b (fun e=>?_)
        subst e
        have h':(!(Nat.beq b b))=true:=hap
        rw [show Nat.beq b b=true from Nat.beq_refl b] at h'
        cases h'
      | none =>
        show (iG S x.dst v (some M)).o=S.o
        rw [hoM]
        exact hkm.1
    | none=>cases sy with
      | some b =>
        show aJ _ b=_
        rw [EV]
        show aJ M.l b=_
        rw [show M.l=S.l from hkm]
      | none=>cases hap
theorem tU.symm {pl:bK} {aj:Array Oper} {o:Oper} {S S2:St} (h:tU pl aj o S S2):tU pl aj o S2 S:=⟨fun h1=>(h.1 h1).symm,fun h2=>(h.2 h2).symm⟩
theorem tU.trans {pl:bK} {aj:Array Oper} {o:Oper} {S S2 S3:St} (h:tU pl aj o S S2) (k:tU pl aj o S2 S3):tU pl aj o S S3:=⟨fun h1=>(h.1 h1).trans (k.1 h1),fun h2=>(h.2 h2).trans (k.2 h2)⟩
theorem qU.of {site:Option Nat} {S S2 M:St} (h:jN S S2) (k:qU site S2 M):qU site S M:=by
  cases site with
  | some r =>
    obtain ⟨k1,k2⟩:=k
    refine ⟨k1.trans h.2.1,fun r' hr=>?_⟩
    rw [k2 r' hr,h.1]
  | none=>exact Eq.trans k h.1
theorem tV.after {pl:bK} {aj:Array Oper} {x y:Oper} {S:St} {v:AV} {m n:Option St} (hk:tV pl aj y (iG S x.dst v m) n) (hx:tV pl aj x S m) (hc:vE pl aj x y):tV pl aj y S n:=by
  refine ⟨hk.1,fun M e=>?_⟩
  have h2:fx pl y=2:=by
    cases Nat.decEq (fx pl y) 2 with
    | isTrue h=>exact h
    | isFalse h=>have:=hk.1 h; rw [this] at e; cases e
  have hm:m=none:=hx.1 fun h=>(hc h).1 h2
  subst hm
  exact qU.of vD (hk.2 M e)
theorem tV.before {pl:bK} {aj:Array Oper} {x y:Oper} {S:St} {v:AV} {m n:Option St} (hx:tV pl aj x S m) (hy:tV pl aj y S n) (hc:vE pl aj x y):tV pl aj x (iG S y.dst v n) m:=by
  refine ⟨hx.1,fun M e=>?_⟩
  have h2:fx pl x=2:=by
    cases Nat.decEq (fx pl x) 2 with
    | isTrue h=>exact h
    | isFalse h=>have:=hx.1 h; rw [this] at e; cases e
  have hn:n=none:=hy.1 fun h=>(hc h2).1 h
  subst hn
  exact qU.of vD.symm (hx.2 M e)
theorem Hq {C:Ctx} (hC:gd C) {pl:bK} {aj:Array Oper} {oi oj:Oper} {v:AV} {m:Option St} (hap:uL pl aj oi oj=true) {K:St→Prop} {S:St}
    (hy:Eff C pl aj oi S v m) (h:ag C pl aj oj (iG S oi.dst v m) K):ag C pl aj oj S fun S'=>Eff C pl aj oi S' v m∧K (iG S' oi.dst v m):=by
  obtain ⟨hap,hc1,hc2,_,hez⟩:=Al hap
  obtain ⟨h1,h2,h3⟩:=Oper.apart_spec hap
  obtain ⟨u,n,hj,hk⟩:=ET hC hez h
  have hjk:tV pl aj oj S n:=hj.1.after hy.1 hc1
  refine hj.2 S (fun d hd=>(EU (fun e=>h1 d e hd)).symm) (Am hy.1 hc1).symm _ ⟨⟨hy.1.before hjk hc1,fun S2 ha hm K2 hk2=>hy.2 S2 (fun d hd=>(ha d hd).trans (EU (fun e=>h3 d e hd))) ((Am hjk hc2).trans hm) K2 hk2⟩,?_⟩
  rw [← DN h2 ?_]
  · exact hk
  · by_cases h12:fx pl oi=2
    · exact .inr (hj.1.1 (hc1 h12).1)
    · exact .inl (hy.1.1 h12)
theorem vG {f:Nat→Edge→Nat} {acc:List Nat} {i:Nat} (hf:∀ s e,Nat.testBit (f s e) i=true→Nat.testBit s i=true∨(Region.binds .any e=true∧(e.on=i∨Nat.testBit (acc.getD e.on 0) i=true))):∀ (l:List Edge) (s:Nat),Nat.testBit (l.foldl f s) i=true →
    Nat.testBit s i=true∨∃ e∈l,Region.binds .any e=true∧(e.on=i∨Nat.testBit (acc.getD e.on 0) i=true)
  | [],s,h=>.inl h
  | e::l,s,h=>by
    rw [List.foldl_cons] at h
    rcases vG hf l _ h with h | ⟨e',he,h1,h2⟩
    · rcases hf _ _ h with h | ⟨h1,h2⟩
      · exact .inl h
      · exact .inr ⟨e,List.mem_cons_self,h1,h2⟩
    · exact .inr ⟨e',List.mem_cons_of_mem _ he,h1,h2⟩
theorem ln (o:Oper) (os:List Oper) (acc:List Nat):∃ b,bV (o::os) acc=bV os (acc++[b])∧∀ i,Nat.testBit b i=true→∃ e∈o.after,Region.binds .any e=true∧(e.on=i∨Nat.testBit (acc.getD e.on 0) i=true):=by
  refine ⟨_,rfl,fun i h=>?_⟩
  have hz:Nat.testBit 0 i=true→False:=fun h=>by simp at h
  refine (vG (acc:=acc) (fun s e h=>?_) _ _ h).elim (fun h=>(hz h).elim) (fun ⟨e,he,h1,h2⟩=>⟨e,by simpa using he,h1,h2⟩)
  split at h
  · rename_i hb
    have h':Nat.testBit (s ||| (2 ^ e.on ||| acc.getD e.on 0)) i=true:=h
    rw [Nat.testBit_or,Nat.testBit_or,Nat.testBit_two_pow] at h'
    simp only [Bool.or_eq_true,decide_eq_true_eq] at h'
    rcases h' with h' | h' | h'
    · exact .inl h'
    · exact .inr ⟨hb,.inl h'⟩
    · exact .inr ⟨hb,.inr h'⟩
  · exact .inl h
theorem pm:∀ (os:List Oper) (acc:List Nat),∃ l,bV os acc=acc++l
  | [],acc=>⟨[],by simp [bV]⟩
  | o::os,acc=>by
    obtain ⟨b,h1,_⟩:=ln o os acc
    obtain ⟨l,h⟩:=pm os (acc++[b])
    exact ⟨b::l,by rw [h1,h,List.append_assoc]; rfl⟩
theorem po:∀ (os:List Oper) (acc:List Nat) (j:Nat) (o:Oper) (i:Nat),os[j]?=some o→Nat.testBit ((bV os acc).getD (acc.length + j) 0) i=true →
    ∃ e∈o.after,Region.binds .any e=true∧(e.on=i∨Nat.testBit ((bV os acc).getD e.on 0) i=true)
  | [],_,_,_,_,h,_=>by simp at h
  | o0::os,acc,0,o,i,h,hb=>by
    simp only [List.getElem?_cons_zero,Option.some.injEq] at h
    subst h
    obtain ⟨b,h1,h2⟩:=ln o0 os acc
    obtain ⟨l,hl⟩:=pm os (acc++[b])
    rw [h1,hl,List.append_assoc] at hb ⊢
    have e1:(acc++([b]++l)).getD (acc.length + 0) 0=b:=by
      simp [List.getD_eq_getElem?_getD]
    rw [e1] at hb
    obtain ⟨e,he,h3,h4⟩:=h2 i hb
    refine ⟨e,he,h3,h4.imp id (fun h=>?_)⟩
    by_cases hlt:e.on<acc.length
    · rw [List.getD_eq_getElem?_getD,List.getElem?_append_left hlt,← List.getD_eq_getElem?_getD]
      exact h
    · rw [List.getD_eq_getElem?_getD,List.getElem?_eq_none (by omega)] at h
      simp at h
  | o0::os,acc,j + 1,o,i,h,hb=>by
    obtain ⟨b,h1,h2⟩:=ln o0 os acc
    rw [h1] at hb ⊢
    refine po os _ j o i (by simpa using h) ?_
    have:(acc++[b]).length + j=acc.length + (j + 1):=by simp; omega
    rw [this]
    exact hb
theorem waits {aj:Array Oper} {j i:Nat} {o:Oper} (hj:aj[j]?=some o) (h:Nat.testBit ((bV aj.toList []).getD j 0) i=true) :
    ∃ e∈o.after,Region.binds .any e=true∧(e.on=i∨Nat.testBit ((bV aj.toList []).getD e.on 0) i=true) :=
  po aj.toList [] j o i (by simpa using hj) (by simpa using h)
def Closed (aj:Array Oper) (listed:Array Bool):Prop:=∀ j,listed.getD j false=true→∀ i,Nat.testBit ((bV aj.toList []).getD j 0) i=true→listed.getD i false=true
theorem EW {listed:Array Bool} {i:Nat} (h:listed.getD i true=false):listed.getD i false=true→False:=by
  intro h2
  simp only [Array.getD_eq_getD_getElem?] at h h2
  cases hh:listed[i]? with
  | none=>rw [hh] at h; simp at h
  | some b=>rw [hh] at h h2; simp at h h2; rw [h] at h2; cases h2
theorem Closed.ready {aj:Array Oper} {listed:Array Bool} (hc:Closed aj listed) {j:Nat} (hj:j∈Region.ready .any aj listed) {i:Nat} (hb:Nat.testBit ((bV aj.toList []).getD j 0) i=true):listed.getD i false=true:=by
  obtain ⟨_,o,ho,hall⟩:=mem_ready.1 hj
  obtain ⟨e,he,h1,h2⟩:=waits ho hb
  rcases h2 with h2 | h2
  · rw [← h2]; exact hall e he h1
  · exact hc _ (hall e he h1) _ h2
theorem vH {listed:Array Bool} {i j:Nat} (h:listed.getD i false=true):(listed.setIfInBounds j true).getD i false=true:=by
  by_cases hij:j=i
  · subst hij
    simp only [Array.getD_eq_getD_getElem?] at *
    cases hh:listed[j]? with
    | none=>rw [hh] at h; simp at h
    | some b =>
      have:=(Array.getElem?_eq_some_iff.1 hh).1
      simp [this]
  · rw [getD_set_ne false hij]; exact h
theorem Closed.set {aj:Array Oper} {listed:Array Bool} (hc:Closed aj listed) {j:Nat} (hj:j∈Region.ready .any aj listed):Closed aj (listed.setIfInBounds j true):=by
  intro k hk i hb
  by_cases hjk:j=k
  · subst hjk
    exact vH (hc.ready hj hb)
  · rw [getD_set_ne false hjk] at hk
    exact vH (hc k hk i hb)
theorem nR {aj:Array Oper} {listed:Array Bool} {i j:Nat} (hi:i∈Region.ready .any aj listed) (hne:j≠i):i∈Region.ready .any aj (listed.setIfInBounds j true):=by
  obtain ⟨h1,o,ho,h2⟩:=mem_ready.1 hi
  exact mem_ready.2 ⟨by rw [getD_set_ne true hne]; exact h1,o,ho,fun e he hb=>vH (h2 e he hb)⟩
def EX (C:Ctx) (pl:bK) (aj:Array Oper) (i:Nat) (K:St→Prop) (S:St):Prop :=
  match aj[i]? with
  | none=>K S
  | some o=>ag C pl aj o S K
def An (C:Ctx) (pl:bK) (aj:Array Oper) (Q:St→Prop):Nat→Array Bool→St→Prop
  | 0,listed,S=>Region.ready .any aj listed=[]∧Q S
  | fuel + 1,listed,S=>(Region.ready .any aj listed=[]→Q S)∧∀ i∈Region.ready .any aj listed,EX C pl aj i (An C pl aj Q fuel (listed.setIfInBounds i true)) S
theorem Cu {C:Ctx} (hC:gd C) {pl:bK} {aj:Array Oper} {o:Oper} {S:St} {K K':St→Prop} (h:ag C pl aj o S K) (hk:∀ S,K S→K' S):ag C pl aj o S K':=by
  obtain ⟨S',h1,h2⟩:=EN hC _ h
  exact h2 K' (hk _ h1)
def Fr (pl:bK) (aj:Array Oper) (listed:Array Bool) (i:Nat) (oi:Oper):Prop:=∀ j oj,aj[j]?=some oj→j≠i→listed.getD j true=false→Nat.testBit ((bV aj.toList []).getD j 0) i=false→uL pl aj oi oj=true
theorem BN {C:Ctx} (hC:gd C) {pl:bK} {aj:Array Oper} {Q:St→Prop} {i:Nat} {oi:Oper} {v:AV} {m:Option St} (hi:aj[i]?=some oi) :
    ∀ (fuel:Nat) (listed:Array Bool) (S:St),Closed aj listed→Fr pl aj listed i oi→i∈Region.ready .any aj listed→Eff C pl aj oi S v m →
      An C pl aj Q fuel (listed.setIfInBounds i true) (iG S oi.dst v m)→An C pl aj Q (fuel + 1) listed S:=by
  have here:∀ {S:St} {K:St→Prop},Eff C pl aj oi S v m→K (iG S oi.dst v m)→EX C pl aj i K S:=by
    intro S K hy hk
    unfold EX
    rw [hi]
    exact hy.2 S (fun _ _=>rfl) (.of (jN.refl S)) K hk
  intro fuel
  induction fuel with
  | zero =>
    intro listed S _ _ hr hy H
    refine ⟨fun h=>(by rw [h] at hr; cases hr),fun j hj=>?_⟩
    by_cases hji:j=i
    · subst hji; exact here hy H
    · have:=nR hj (fun e=>hji e.symm)
      rw [H.1] at this
      cases this
  | succ fuel ih =>
    intro listed S hcl hfree hr hy H
    refine ⟨fun h=>(by rw [h] at hr; cases hr),fun j hj=>?_⟩
    by_cases hji:j=i
    · subst hji; exact here hy H
    · have h1:=H.2 j (nR hj (fun e=>hji e.symm))
      obtain ⟨hjun,oj,hoj,hall⟩:=mem_ready.1 hj
      have hnot:Nat.testBit ((bV aj.toList []).getD j 0) i=false:=by
        cases hb:Nat.testBit ((bV aj.toList []).getD j 0) i with
        | false=>rfl
        | true=>exact (EW (mem_ready.1 hr).1 (hcl.ready hj hb)).elim
      unfold EX at h1 ⊢
      rw [hoj] at h1 ⊢
      have h2:=Hq hC (hfree j oj hoj hji hjun hnot) hy h1
      have hfree':Fr pl aj (listed.setIfInBounds j true) i oi:=fun k ok hk hki hun hno=>by
        refine hfree k ok hk hki ?_ hno
        by_cases hjk:j=k
        · subst hjk; exact hjun
        · rw [getD_set_ne true hjk] at hun; exact hun
      refine Cu hC h2 (fun S' h3=>ih (listed.setIfInBounds j true) S' (hcl.set hj) hfree' (nR hr (fun e=>hji e)) h3.1 ?_)
      rw [Array.setIfInBounds_comm _ _ hji]
      exact h3.2
theorem BO {pl:bK} {aj:Array Oper} {listed:Array Bool} {i:Nat} {oi:Oper} (hi:aj[i]?=some oi) (h:Cj pl aj (bV aj.toList []) listed i=true):Fr pl aj listed i oi:=by
  intro j oj hj hji hun hno
  unfold Cj at h
  rw [hi] at h
  have hlt:j<aj.size:=(Array.getElem?_eq_some_iff.1 hj).1
  have:=List.all_eq_true.1 h j (List.mem_range.2 hlt)
  rw [hj] at this
  simp only [hun,hno,Bool.or_eq_true,Bool.or_false] at this
  rcases this with h | h
  · exact absurd (Nat.eq_of_beq_eq_true h) hji
  · simpa using h
theorem Hr {x y:Value} (h:Je x y=true):x=y:=by
  unfold Je at h
  split at h
  · simp at h; rw [h]
  · simp at h; rw [h.1,h.2]
  · rename_i a b
    have h':=eq_of_beq h
    congr 1
    have:a.data=b.data:=Array.ext' h'
    cases a; cases b; simp_all
  · cases h
theorem Hs {x y:Key} (h:Jf x y=true):x=y:=by
  unfold Jf at h
  split at h
  · rw [Nat.eq_of_beq_eq_true h]
  · rw [Nat.eq_of_beq_eq_true h]
  · cases h
theorem gO {α:Type} {f:α→α→Bool} (hf:∀ x y,f x y=true→x=y):∀ {xs ys:List α},zH f xs ys=true→xs=ys
  | [],[],_=>rfl
  | x::xs,y::ys,h=>by
    unfold zH at h
    simp only [Bool.and_eq_true] at h
    rw [hf x y h.1,gO hf h.2]
  | [],_::_,h=>by cases h
  | _::_,[],h=>by cases h
theorem si:∀ (n:Nat) (x y:AV),Dl n x y=true→x=y
  | 0,_,_,h=>by cases h
  | n + 1,x,y,h=>by
    have ih:=si n
    have nb:∀ {a b:Nat},Nat.beq a b=true→a=b:=fun h=>Nat.eq_of_beq_eq_true h
    unfold Dl at h
    split at h <;> first | rfl | (cases h; done) | skip
    · rw [Hr h]
    · simp only [Bool.and_eq_true] at h; rw [Hs h.1.1,nb h.1.2,nb h.2]
    · simp only [Bool.and_eq_true] at h; rw [gO ih h.1,nb h.2]
    · rw [gO (fun _ _ h=>gO ih h) h]
    · rw [nb h]
    · rw [nb h]
    · simp only [Bool.and_eq_true] at h; rw [nb h.1.1.1,nb h.1.1.2,nb h.1.2,nb h.2]
    · rw [nb h]
    · simp only [Bool.and_eq_true] at h; rw [nb h.1.1,gO ih h.1.2,gO ih h.2]
    · rw [gO ih h]
    · rw [gO ih h]
theorem Gi (x y:Ob) (h:Hh x y=true):x=y:=by
  unfold Hh at h
  split at h
  · simp only [Bool.and_eq_true,beq_iff_eq] at h
    rw [h.1.1,Nat.eq_of_beq_eq_true h.1.2,gO (fun _ _ h=>gO (si 8) h) h.2]
  · simp only [Bool.and_eq_true,beq_iff_eq] at h
    rw [h.1,gO (fun (x y:AV×AV) h=>by
      simp only [Bool.and_eq_true] at h
      exact Prod.ext (si 8 _ _ h.1) (si 8 _ _ h.2)) h.2]
  · rfl
  · cases h
theorem Gj {S S':St} (h:Hi S S'=true):S=S':=by
  unfold Hi at h
  simp only [Bool.and_eq_true] at h
  obtain ⟨t,l,o,b⟩:=S
  obtain ⟨t',l',o',b'⟩:=S'
  simp only at h
  rw [gO (si 8) h.1.1.1,gO (fun (x y:Nat×List AV) h=>by
    simp only [Bool.and_eq_true] at h
    exact Prod.ext (Nat.eq_of_beq_eq_true h.1) (gO (si 8) h.2)) h.1.1.2,gO Gi h.1.2,Nat.eq_of_beq_eq_true h.2]
theorem DO {S2 S1:St} {X:Prop} (h:sS S2 S1 X):S2=S1∧X:=by
  unfold sS at h
  split at h
  · rename_i he; exact ⟨Gj he,h⟩
  · exact h
theorem Ao {go:Nat→(St→Prop)→Prop} (hg:∀ i,aw (go i)):∀ {is:List Nat} {S1:St} {X:Prop},Bj go is S1 X→X∧∀ i∈is,go i fun S2=>S2=S1
  | [],_,_,h=>⟨h,fun i hi=>by cases hi⟩
  | i::is,S1,X,h=>by
    obtain ⟨S2,h1,h2⟩:=hg i _ h
    obtain ⟨h3,h4⟩:=DO h1
    obtain ⟨h5,h6⟩:=Ao hg h4
    refine ⟨h5,fun k hk=>?_⟩
    rcases List.mem_cons.1 hk with rfl | hk
    · exact h2 _ h3
    · exact h6 k hk
theorem pq {pl:bK} {aj:Array Oper} {ws:List Nat} {listed:Array Bool}:∀ {is:List Nat} {k:Nat},nu pl aj ws listed is=some k→k∈is∧Cj pl aj ws listed k=true∧∃ o,aj[k]?=some o∧Bi (fx pl o)=true
  | [],_,h=>by cases h
  | i::is,k,h=>by
    unfold nu at h
    split at h
    · rename_i hb
      cases h
      simp only [Bool.and_eq_true] at hb
      refine ⟨List.mem_cons_self,hb.2,?_⟩
      have h1:=hb.1
      split at h1
      · rename_i o ho; exact ⟨o,ho,h1⟩
      · cases h1
    · obtain ⟨h1,h2⟩:=pq h
      exact ⟨List.mem_cons_of_mem _ h1,h2⟩
theorem vJ {C:Ctx} {pl:bK} {aj:Array Oper} {i:Nat} {S:St} {K:St→Prop} (h:xv C pl aj i S K):EX C pl aj i K S:=by
  unfold xv at h
  unfold EX
  split at h
  · exact False.elim h
  · rename_i o ho
    rw [ho]
    exact h
theorem EY {C:Ctx} (hC:gd C) {pl:bK} {aj:Array Oper} {i:Nat} {S:St} {K K':St→Prop} (h:EX C pl aj i K S) (hk:∀ S,K S→K' S):EX C pl aj i K' S:=by
  unfold EX at h ⊢
  split
  · rename_i ho; rw [ho] at h; exact hk _ h
  · rename_i o ho; rw [ho] at h; exact Cu hC h hk
theorem qV {C:Ctx} (hC:gd C) {pl:bK} {aj:Array Oper} {Q:St→Prop}:∀ (n:Nat) (listed:Array Bool) (S:St),Closed aj listed→jt C pl aj (bV aj.toList []) n listed S Q→An C pl aj Q n listed S
  | 0,listed,S,_,h=>by
    unfold jt at h
    split at h
    · rename_i he; exact ⟨he,h⟩
    · exact False.elim h
  | n + 1,listed,S,hcl,h=>by
    unfold jt at h
    split at h
    · rename_i he
      exact ⟨fun _=>h,fun i hi=>by rw [he] at hi; cases hi⟩
    · rename_i r rs he
      split at h
      · rename_i k hk
        obtain ⟨hm,hf,o,ho,hez⟩:=pq hk
        rw [← he] at hm
        have h1:=vJ h
        unfold EX at h1
        rw [ho] at h1
        obtain ⟨v,m,hy,hK⟩:=ET hC hez h1
        exact BN hC ho n listed S hcl (BO ho hf) hm hy (qV hC n _ _ (hcl.set hm) hK)
      · have hdet:∀ i,aw (fun K':St→Prop=>xv C pl aj i S fun S'=>jt C pl aj (bV aj.toList []) n (listed.setIfInBounds i true) S' K'):=fun i=>aw.bind (fF hC) (fun S'=>fh hC n _ S')
        obtain ⟨S1,h1,h2⟩:=hdet r _ h
        obtain ⟨h3,h4⟩:=Ao hdet h1
        refine ⟨fun h0=>(by rw [he] at h0; cases h0),fun i hi=>?_⟩
        have hi':=hi
        rw [he] at hi'
        have hgo:xv C pl aj i S fun S'=>jt C pl aj (bV aj.toList []) n (listed.setIfInBounds i true) S' Q:=by
          rcases List.mem_cons.1 hi' with rfl | hi'
          · exact h2 Q h3
          · obtain ⟨S2,h5,h6⟩:=hdet i _ (h4 i hi')
            exact h6 Q (by rw [h5]; exact h3)
        exact EY hC (vJ hgo) (fun S' h=>qV hC n _ S' (hcl.set hi) h)
open Go.RowKit (Below)
def ZR (P:Program) (e:TypeId) (cs:List AV):Prop:=∃ i z,P.info? e=some i∧i.zero=some z∧∀ E,b7 E cs z.cells.toList
theorem BP (k:Key) (c:Value):cK 4 k (uB c)=uB c:=by
  unfold uB
  split <;> rfl
theorem vK {P:Program} {e:TypeId} {k:List AV→Prop} (h:cx P e k):∃ cs,ZR P e cs∧k cs∧∀ k:Key,cs.map (cK 4 k)=cs:=by
  unfold cx at h
  split at h
  · rename_i i hi
    split at h
    · rename_i z hz
      obtain ⟨h1,h2⟩:=ac h
      rw [gS] at h2
      obtain ⟨i',z',cs,hi',hz',_,he,hcs⟩:=c8 (P:=P) (e:=e) (k:=fun cs=>cs=z.cells.toList.map uB) (by
        unfold cx
        rw [hi]
        dsimp only
        rw [hz]
        dsimp only
        refine al h1 ?_
        rw [gS])
      subst he
      refine ⟨_,⟨i',z',hi',hz',hcs⟩,h2,fun k=>?_⟩
      rw [List.map_map]
      exact List.map_congr_left fun c _=>BP k c
    · exact False.elim h
  · exact False.elim h
theorem ai.drawn {G:Gh} {p:Nat→Option (List AV)} {E:Env} {S:St} {w:World} {n:Nat} (h:ai G p E S w):ai G p E S { w with drawn:=n } :=
  ⟨h.hp,h.os,h.tape,h.output,h.size,h.keep,h.F0,h.Flt,h.Fnew,h.own,h.inj,h.loc,h.obj,h.old,h.bl,h.szs,h.pk,h.ow⟩
theorem gB.congr {p p':Nat→Option (List AV)} {E:Env} {x:Option (List AV)} {d:Nat} (h:gB p E x d) (hp:p' d=p d):gB p' E x d:=by
  unfold gB at *
  cases x with
  | none=>exact h
  | some row =>
    rcases h with h | ⟨h1,h2,h3⟩
    · exact .inl h
    · exact .inr ⟨h1,hp.trans h2,h3⟩
def kB (o:Oper) (p:Nat→Option (List AV)):Nat→Option (List AV) :=
  match o.op,o.dst with
  | .alloc _,some d=>fun x=>if x=d then none else p x
  | _,_=>p
theorem kC {o:Oper} {p:Nat→Option (List AV)} (h:∀ e,o.op≠.alloc e):kB o p=p:=by
  unfold kB
  split
  · rename_i e d ho _
    exact (h _ ho).elim
  · rfl
theorem mF {o:Oper} {p:Nat→Option (List AV)} {e:TypeId} {d:Nat} (h:o.op=.alloc e) (hd:o.dst=some d):kB o p=fun x=>if x=d then none else p x:=by
  unfold kB
  rw [h,hd]
section
variable {G:Gh} {p:Nat→Option (List AV)} {E:Env} {S:St} {w:World} {C:Ctx} {pl:bK} {o:Oper} {a:Act} {K:St→Prop}
theorem yX {d:Nat} {e:TypeId} {cs:List AV} (hM:ai G p E S w) (ht:TR E S.t a) (ho:o.op=.alloc e) (hd:o.dst=some d) (hp:p d=some cs) (hz:ZR C.P e cs) (hpos:0<cs.length)
    (h:K (kn S (some d) (.ptr (.L d) 0 0))) (next:Act→World→Prop) (Q:Exit→Act→World→Prop)
    (hn:∀ S' E' a' w',K S'→ai G (kB o p) E' S' w'→TR E' S'.t a'→next a' w'):o.wp C.P a w next Q:=by
  obtain ⟨i,z,hi,hz,hcs⟩:=hz
  obtain ⟨hmu,hrow⟩:=hM.pk d cs hp
  have hrun:(execOp a.eval o).run C.P w=.ok (.value (.pointer (some ⟨w.heap.size,0,none⟩))) { w with heap:=w.heap.push (.cells z.cells e) }:=by
    simp [execOp,ho,Instr.alloc,cH hi hz,pU]
  refine cU hrun ?_
  have arr:∀ {E1:Env},b7 E1 cs z.cells.toList→ct E1 (w.heap.push (.cells z.cells e)) [cs] w.heap.size 0 cs.length:=by
    intro E1 hcs1
    refine ct.of_rows hpos (fun r hr=>by simp at hr; subst hr; rfl) (dD w _) (by have:=hcs1.1; simp at this; simp; omega) (fun i row r c h1 h2=>?_)
    cases i with
    | zero =>
      simp at h1
      subst h1
      obtain ⟨u,hu,hv⟩:=hcs1.get h2
      exact ⟨u,by simpa using hu,hv⟩
    | succ i=>simp at h1
  rw [mF ho hd] at hn
  obtain ⟨hle,hS⟩:=hM.newkey' (p':=fun x=>if x=d then none else p x) (ob:=.cells z.cells e) (key:=.L d) (sz:=cs.length) (n:=1) (fun x hx=>if_neg fun h=>hx (by rw [h])) (fun x hx=>by cases hx; exact if_pos rfl) hmu
    (M':=S) (fun _ _=>rfl) (fun _ _=>rfl) rfl hM.bl (fun id he=>by cases he)
    (fun e he hle=>by
      cases he
      rw [hrow]
      refine .inl ⟨w.heap.size,?_,arr (hcs _)⟩
      show aF E.mu (.L d) _ (.L d)=_
      unfold aF
      rw [if_pos rfl])
    (fun id he=>by cases he) Bq
  refine hn _ _ _ _ h (hS.congr cu cv cC) ?_
  have:=(ht.mono hle).put (S:=S) (dst:=o.dst) (c:=.ptr (.L d) 0 0) (u:=.pointer (some ⟨w.heap.size,0,none⟩)) (by
    have hmu':aF E.mu (.L d) (.blk w.heap.size 0 cs.length 1) (.L d)=some (.blk w.heap.size 0 cs.length 1):=by unfold aF; rw [if_pos rfl]
    have:=VR.ptr (E:=⟨E.F,aF E.mu (.L d) (.blk w.heap.size 0 cs.length 1),w.heap.push (.cells z.cells e)⟩) 0 0 rfl hmu'
    simpa using this)
  rw [hd] at this ⊢
  exact this
theorem DR {e:TypeId} (ho:o.op=.alloc e):fx pl o=4:=by
  have hw:fQ pl o=false:=by unfold fQ; rw [ho]
  unfold fx
  rw [hw]
  dsimp only
  unfold xu
  rw [ho]
theorem Ap {C:Ctx} (hC:d5 C) {pl:bK} {o:Oper} {S:St} {K:St→Prop} {G:Gh} {pd:Nat→Option (List AV)} {E:Env} {w:World} {a:Act} {c:Call} (hM:ai G pd E S w) (ht:TR E S.t a) (ho:o.op=.call c) (h:o7 C pl o S K):cT C.P G pd o a w K:=by
  unfold o7 at h
  obtain ⟨vs,h,hv⟩:=cY ht h
  have hw:fQ pl o=false:=by unfold fQ; rw [ho]
  unfold mi at h
  rw [hw] at h
  dsimp only at h
  unfold kV at h
  rw [ho] at h hv
  split at h
  · rename_i he; cases he
  · rename_i c' fid first cap as he
    cases he
    split at h
    · rename_i x hcal
      obtain ⟨h1,h⟩:=ac h
      simp only [Bool.and_eq_true] at h1
      have hv:b7 E (.fn fid first cap::as) (a.eval x::c.args.toList.map a.eval):=by simpa [Op.operands,Call.operands,hcal] using hv
      obtain ⟨u,us,e,hf,has⟩:=hv.uncons
      cases e
      obtain ⟨g1,g2⟩:=hC.scall _ _ _ _ h
      refine s9 hM ht ho hcal hf has h1.2 ⟨g1,fun E w us hM hg hv=>(g2 E w us hM hg hv).mono ?_⟩
      rintro e w' ⟨v,r,o',E',hk,rest⟩
      obtain ⟨h4,h5⟩:=ac hk
      refine ⟨v,r,o',E',?_,rest⟩
      have h4:bU S.o o' 0=[]:=List.isEmpty_iff.1 h4
      show jG (bU S.o o' 0) S.t S.l _
      rw [h4]
      exact h5
    · exact h.elim
  · rename_i hne
    unfold xt at h
    rw [ho] at h
    exact h.elim
theorem Aq {C:Ctx} (hC:d5 C) {pl:bK} {o:Oper} {S:St} {K:St→Prop} {G:Gh} {pd:Nat→Option (List AV)} {E:Env} {w:World} {a:Act} (hM:ai G pd E S w) (ht:TR E S.t a) (h:o7 C pl o S K):cT C.P G pd o a w K:=by
  cases hw:fQ pl o with
  | true =>
    refine u_ (pl:=pl) hM ht ?_
    unfold o7 at h
    unfold yr
    have e:∀ vs M k,mi C pl o vs M k=kP C.P pl o vs M k:=fun vs M k=>by unfold mi; rw [hw]
    simp only [e] at h
    exact h
  | false =>
  have e:∀ vs M k,mi C pl o vs M k=kV C o vs M k:=fun vs M k=>by unfold mi; rw [hw]
  by_cases hmk:xW pl o
  · rcases hmk with (⟨t,X,Y,ho⟩ | ⟨c,ho⟩) | hmk
    rotate_left
    · exact Ap hC hM ht ho h
    · rw [hw] at hmk; cases hmk
    refine mZ (bx:=false) hM ht ho ?_
    unfold o7 at h
    simp only [e] at h
    rw [ho] at h
    have h':cI S X fun l=>cI S Y fun c=>bZ C.P t l c (cL S) fun M' r=>bB o.dst r (fe S M') K:=by
      have h:cI S X fun l=>cI S Y fun c=>kV C o [l,c] (cL S) fun r M=>bB o.dst r (fe S M) K:=h
      obtain ⟨l,h1,h2⟩:=cb _ h
      obtain ⟨c,h3,h4⟩:=cb _ h1
      refine h2 (fun l=>cI S Y fun c=>bZ C.P t l c (cL S) fun M' r=>bB o.dst r (fe S M') K) (h4 (fun c=>bZ C.P t l c (cL S) fun M' r=>bB o.dst r (fe S M') K) ?_)
      unfold kV at h3
      rw [ho] at h3
      exact h3
    obtain ⟨l,h1,h2⟩:=cb _ h'
    obtain ⟨c,h3,h4⟩:=cb _ h1
    refine h2 (fun l=>cI S Y fun c=>bZ C.P t l c S fun S' r=>bB o.dst r S' K) (h4 (fun c=>bZ C.P t l c S fun S' r=>bB o.dst r S' K) ?_)
    unfold bZ at h3 ⊢
    exact h3
  · refine vc hM ht ?_
    unfold o7 at h
    unfold Dj
    obtain ⟨vs,h1,h2⟩:=aZ _ h
    refine h2 (fun vs=>xt C o vs (cL S) fun r M=>bB o.dst r (fe S M) K) ?_
    rw [qa hmk] at h1
    exact h1
theorem DT (hC:d5 C) (hM:ai G p E S w) (ht:TR E S.t a) (hA:∀ e d,o.op=.alloc e→o.dst=some d→∃ cs,p d=some cs∧0<cs.length∧ZR C.P e cs) (h:wx C pl o S K) (next:Act→World→Prop) (Q:Exit→Act→World→Prop)
    (hn:∀ S' E' a' w',K S'→ai G (kB o p) E' S' w'→TR E' S'.t a'→next a' w'):o.wp C.P a w next Q:=by
  by_cases hal:∃ e,o.op=.alloc e
  · obtain ⟨e,ho⟩:=hal
    unfold wx at h
    rw [DR ho] at h
    have h':match o.dst with
      | some d=>bB o.dst (.ptr (.L d) 0 0) S K
      | none=>af 217:=h
    split at h'
    · rename_i d hd
      obtain ⟨cs,h3,h4,h5⟩:=hA e d ho hd
      rw [aE,hd] at h'
      exact yX hM ht ho hd h3 h5 h4 h' next Q hn
    · exact False.elim h'
  · rw [kC (fun e he=>hal ⟨e,he⟩)] at hn
    unfold wx at h
    split at h
    · exact va hM ht h next Q hn
    · exact vb hC hM ht h next Q hn
    · exact Aq hC hM ht h next Q hn
    · rename_i hc
      exfalso
      unfold fx at hc
      rw [xY (by unfold fx; rw [hc]; decide)] at hc
      dsimp only at hc
      unfold xu at hc
      split at hc
      · split at hc <;> cases hc
      · rename_i e ho; exact hal ⟨e,ho⟩
      · cases hc
      · split at hc
        · split at hc
          · cases hc
          · split at hc <;> cases hc
        · cases hc
        · split at hc <;> cases hc
        · unfold Ew at hc
          split at hc <;> try (cases hc; done)
          all_goals (split at hc <;> cases hc)
      · unfold Ew at hc
        split at hc <;> try (cases hc; done)
        all_goals (split at hc <;> cases hc)
    · exact Bu hM ht h next Q hn
    · split at h
      · exact False.elim h
      · rename_i hb
        exact xN hC (fun he=>by rw [hb] at he; cases he) hM ht h next Q hn
end
def Inv (P:Program) (p:Nat→Option (List AV)) (aj:Array Oper) (listed:Array Bool):Prop :=
  ∀ (i:Nat) (o:Oper) (e:TypeId) (d:Nat),aj[i]?=some o→o.op=.alloc e→o.dst=some d→listed.getD i true=false→∃ cs,p d=some cs∧0<cs.length∧ZR P e cs
def yY (aj:Array Oper):Prop:=∀ (i i':Nat) (o o':Oper) (e e':TypeId) (d:Nat),aj[i]?=some o→aj[i']?=some o'→o.op=.alloc e→o'.op=.alloc e'→o.dst=some d→o'.dst=some d→i=i'
theorem BQ {listed:Array Bool} {i:Nat}:(listed.setIfInBounds i true).getD i true=true:=by
  simp only [Array.getD_eq_getD_getElem?,Array.getElem?_setIfInBounds,if_pos]
  split <;> rfl
theorem Inv.step {P:Program} {p:Nat→Option (List AV)} {aj:Array Oper} {listed:Array Bool} {i:Nat} {o:Oper} (h:Inv P p aj listed) (hap:yY aj) (hi:aj[i]?=some o) :
    Inv P (kB o p) aj (listed.setIfInBounds i true):=by
  intro j oj e d hj hoj hdj hjun
  have hij:i≠j:=fun he=>by subst he; rw [BQ] at hjun; cases hjun
  rw [getD_set_ne true hij] at hjun
  obtain ⟨cs,h1,h2⟩:=h j oj e d hj hoj hdj hjun
  refine ⟨cs,?_,h2⟩
  by_cases hal:∃ e,o.op=.alloc e
  · obtain ⟨e',ho⟩:=hal
    cases hd:o.dst with
    | none =>
      unfold kB
      rw [ho,hd]
      exact h1
    | some d' =>
      rw [mF ho hd]
      show (if d=d' then none else p d)=_
      rw [if_neg (fun he=>by subst he; exact hij (hap i j o oj e' e d hi hj ho hoj hd hdj))]
      exact h1
  · rw [kC (fun e he=>hal ⟨e,he⟩)]
    exact h1
theorem BR {o:Oper} {p:Nat→Option (List AV)} {d:Nat} (h:kB o p d≠none):p d≠none:=by
  by_cases hal:∃ e,o.op=.alloc e
  · obtain ⟨e',ho⟩:=hal
    cases hd:o.dst with
    | none =>
      unfold kB at h
      rw [ho,hd] at h
      exact h
    | some d' =>
      rw [mF ho hd] at h
      intro hn
      apply h
      show (if d=d' then none else p d)=none
      split
      · rfl
      · exact hn
  · rw [kC (fun e he=>hal ⟨e,he⟩)] at h
    exact h
def Q0 (Q:Exit→Act→World→Prop) (e:Exit) (a:Act) (w:World):Prop:=e=.normal∧Q .normal a w
theorem Im {P:Program} {o:Oper} {a:Act} {w:World} {next:Act→World→Prop} {Q:Exit→Act→World→Prop} (h:o.wp P a w next (Q0 Q)):o.wp P a w next Q:=by
  unfold Oper.wp at *
  revert h
  generalize (execOp a.eval o).run P w=x
  intro h
  cases x with
  | ok x w' =>
    cases x with
    | enter f args=>exact Calls.mono h (fun e w'' he=>by
        cases e with
        | returned v=>exact he
        | panicked c=>exact absurd he.1 (fun h=>by cases h)
        | outgrown=>obtain ⟨_,_,h,_⟩:=he; cases h)
    | _=>exact h
  | halt x w' =>
    cases x with
    | panic v=>exact absurd h.1 (fun h=>by cases h)
    | _=>exact h
theorem EZ {aj:Array Oper} (h:I3 aj=true):Region.noSelect aj=true∧∀ (i:Nat) (o:Oper),aj[i]?=some o→∀ c,o.op≠.defer c:=by
  unfold I3 at h
  rw [Bool.and_eq_true] at h
  refine ⟨h.1,fun i o ho c hc=>?_⟩
  have:=List.all_eq_true.1 h.2 o (by rw [Array.mem_toList_iff]; exact Array.mem_of_getElem? ho)
  rw [hc] at this
  cases this
theorem qW {P:Program} {rr:Option Nat} {aj:Array Oper} {Q:Exit→Act→World→Prop} (hnd:∀ (i:Nat) (o:Oper),aj[i]?=some o→∀ c,o.op≠.defer c) :
    ∀ (fuel:Nat) (listed:Array Bool) (a:Act) (w:World),wpAny P .any aj (Q0 Q) fuel listed a w→wpAnyIn (rd rr) 0 P .any aj Q fuel listed a w
  | 0,_,_,_,h=>⟨h.1,h.2.2⟩
  | fuel + 1,listed,a,w,h=>by
    refine ⟨fun h0=>(h.1 h0).2,fun i hi=>?_⟩
    have h1:=h.2 i hi
    unfold wpOpIn
    unfold wpOp at h1
    split at h1
    · rename_i ho
      rw [ho]
      exact qW hnd fuel _ _ _ h1
    · rename_i o ho
      rw [ho]
      dsimp only
      split at h1
      · rename_i hw
        rw [if_pos hw]
        rcases h1 with h1 | ⟨_,_,_,h1,_⟩
        · exact xO (hnd i o ho) (Im (Oper.wp_mono (fun a w h=>qW hnd fuel _ _ _ h) h1))
        · cases h1
      · rename_i hw
        rw [if_neg hw]
        exact ⟨fun _ _=>trivial,qW hnd fuel _ _ _ h1⟩
theorem mG {C:Ctx} (hC:d5 C) {pl:bK} {aj:Array Oper} {G:Gh} {A:Nat→Prop} {Q:St→Prop} {Qc:Exit→Act→World→Prop} (hap:yY aj) (hg:∀ (i:Nat) (o:Oper) (e:TypeId),aj[i]?=some o→o.op=.alloc e→o.guard=none)
    (hQ:∀ p S' E' a' w',(∀ d,p d≠none→A d)→Q S'→ai G p E' S' w'→TR E' S'.t a'→Qc .normal a' w') :
    ∀ (fuel:Nat) (listed:Array Bool) (p:Nat→Option (List AV)) (S:St) (E:Env) (a:Act) (w:World),(∀ d,p d≠none→A d)→ai G p E S w→TR E S.t a→Inv C.P p aj listed→An C pl aj Q fuel listed S→wpAny C.P .any aj Qc fuel listed a w
  | 0,_,_,_,_,_,_,hA,hM,ht,_,h=>⟨h.1,hQ _ _ _ _ _ hA h.2 hM ht⟩
  | fuel + 1,listed,p,S,E,a,w,hA,hM,ht,hI,h=>by
    refine ⟨fun h0=>hQ _ _ _ _ _ hA (h.1 h0) hM ht,fun i hi=>?_⟩
    have h1:=h.2 i hi
    obtain ⟨hun,o,ho,_⟩:=mem_ready.1 hi
    unfold EX at h1
    unfold wpOp
    rw [ho] at h1 ⊢
    dsimp only at h1 ⊢
    have goon:∀ S' E' a' w',An C pl aj Q fuel (listed.setIfInBounds i true) S'→ai G (kB o p) E' S' w'→TR E' S'.t a'→wpAny C.P .any aj Qc fuel (listed.setIfInBounds i true) a' w' :=
      fun S' E' a' w' hk hS htr=>mG hC hap hg hQ fuel _ _ S' E' a' w' (fun d hd=>hA d (BR hd)) hS htr (hI.step hap ho) hk
    have step:∀ {S1:St},ai G p E S1 w→TR E S1.t a→pM C pl aj o S1 (An C pl aj Q fuel (listed.setIfInBounds i true))→Region.wanted o (yielded aj a.tmps)=true→(if Region.wanted o (yielded aj a.tmps) then o.wp C.P a w (wpAny C.P .any aj Qc fuel (listed.setIfInBounds i true)) Qc∨(o.asks C.P a w∧LetsOut Qc) else wpAny C.P .any aj Qc fuel (listed.setIfInBounds i true) (a.put o.dst undef) w):=by
      intro S1 hM1 ht1 h hw
      obtain ⟨_,h⟩:=ac h
      rw [if_pos hw]
      exact .inl (DT hC hM1 ht1 (fun e d h1 h2=>hI i o e d ho h1 h2 hun) h _ _ goon)
    unfold ag at h1
    split at h1
    · rename_i hgd
      exact step hM ht h1 (by unfold Region.wanted; rw [hgd])
    · rename_i j want hgd
      split at h1
      · exact False.elim h1
      · rename_i d hd
        obtain ⟨b,S1,h1,hb,hM1,ht1⟩:=jU hM ht h1
        rcases kY hgd (mt hd hb) h1 with ⟨hw,h1⟩ | ⟨hw,h1⟩
        · exact step hM1 ht1 h1 hw
        · rw [aE] at h1
          rw [if_neg (by rw [hw]; exact fun h=>by cases h)]
          have hnal:∀ e,o.op≠.alloc e:=fun e he=>by
            have:=hg i o e ho he
            rw [hgd] at this
            cases this
          refine goon _ E _ w h1 ?_ (ht1.put (qO _))
          rw [kC hnal]
          exact hM1.congr cu cv cC
theorem BS {pl:bK} {o:Oper} (h:rQ o=true):fx pl o=0∧o.guard=none∧(∀ t len parts,o.op≠.buildSlice t len parts)∧∀ e,o.op≠.alloc e:=by
  unfold rQ at h
  split at h
  · cases h
  · rename_i hg
    split at h
    all_goals first
      | (rename_i ho; refine ⟨?_,hg,fun _ _ _ he=>(by rw [ho] at he; cases he),fun _ he=>(by rw [ho] at he; cases he)⟩; unfold fx fQ; rw [ho]; dsimp only; unfold xu; rw [ho]; dsimp only; unfold Ew; rw [ho])
      | cases h
theorem BU {C:Ctx} {pl:bK} {o:Oper} {vs:List AV} {k:AV→Prop} {E:Env} {a:Act} (hp:rQ o=true) (h:pop C pl o vs k) (hv:b7 E vs (o.op.operands.toList.map a.eval)):∃ r z,k r∧VR E r z∧∀ w,(execOp a.eval o).run C.P w=.ok (.value z) w:=by
  unfold rQ at hp
  split at hp
  · cases hp
  · split at hp
    · rename_i x ho
      rw [ho] at hv
      unfold pop at h
      rw [ho] at h
      split at h <;> rename_i he <;> first | (cases he; done) | skip
      all_goals first
        | (cases he
           obtain ⟨u,us,e,hc,hn⟩:=hv.uncons
           simp [Op.operands] at e
           exact ⟨_,_,h,hc,fun w=>by simp [execOp,ho,e.1]⟩)
        | exact h.elim
    · rename_i x ho
      rw [ho] at hv
      unfold pop at h
      rw [ho] at h
      split at h <;> rename_i he <;> first | (cases he; done) | skip
      all_goals first
        | (cases he
           obtain ⟨u,us,e,hc,hn⟩:=hv.uncons
           simp [Op.operands] at e
           exact ⟨_,_,h,hc,fun w=>by simp [execOp,ho,e.1]⟩)
        | exact h.elim
    · rename_i x ho
      rw [ho] at hv
      unfold pop at h
      rw [ho] at h
      split at h <;> rename_i he <;> first | (cases he; done) | skip
      all_goals first
        | (cases he
           obtain ⟨u,us,e,hc,hn⟩:=hv.uncons
           simp [Op.operands] at e
           have hc0:=hc
           cases hc with
           | ptr _ _ hs0 hm=>exact ⟨_,_,h,hc0,fun w=>by simp [execOp,ho,e.1]⟩)
        | (cases he
           obtain ⟨u,us,e,hc,hn⟩:=hv.uncons
           simp [Op.operands] at e
           have hc0:=hc
           cases hc with
           | fptr _ us h1 h2 h3 h4=>exact ⟨_,_,h,hc0,fun w=>by simp [execOp,ho,e.1]⟩)
        | (cases he
           obtain ⟨u,us,e,hc,hn⟩:=hv.uncons
           simp [Op.operands] at e
           have hc0:=hc
           cases hc with
           | fn us ws h1 h2 h3 h4=>exact ⟨_,_,h,hc0,fun w=>by simp [execOp,ho,e.1]⟩)
        | exact h.elim
    · rename_i t x f ho
      rw [ho] at hv
      unfold pop at h
      rw [ho] at h
      split at h <;> rename_i he <;> first | (cases he; done) | skip
      all_goals first
        | (cases he
           obtain ⟨u,us,e,hc,hn⟩:=hv.uncons
           simp [Op.operands] at e
           obtain ⟨r,z,hk,hr,hrun⟩:=mX h hc
           exact ⟨r,z,hk,hr,fun w=>by simp [execOp,ho,e.1,hrun w]⟩)
        | exact h.elim
    · cases hp
theorem pt {aj:Array Oper} {listed:Array Bool}:∀ {is:List Nat} {i:Nat},nv aj listed is=some i→i∈is∧∃ o,aj[i]?=some o∧rQ o=true∧Region.free .any aj listed i=true
  | [],_,h=>by cases h
  | j::js,i,h=>by
    unfold nv at h
    split at h
    · rename_i hb
      cases h
      rw [Bool.and_eq_true] at hb
      obtain ⟨h1,h2⟩:=hb
      split at h1
      · rename_i o ho
        exact ⟨List.mem_cons_self,o,ho,h1,h2⟩
      · cases h1
    · obtain ⟨h1,h2⟩:=pt h
      exact ⟨List.mem_cons_of_mem _ h1,h2⟩
theorem vL {C:Ctx} (hD:gd C) (hC:d5 C) {pl:bK} {aj:Array Oper} {G:Gh} {A:Nat→Prop} {Q:St→Prop} {Qc:Exit→Act→World→Prop} (hs:Region.noSelect aj=true) (hap:yY aj) (hg:∀ (i:Nat) (o:Oper) (e:TypeId),aj[i]?=some o→o.op=.alloc e→o.guard=none)
    (hQ:∀ p S' E' a' w',(∀ d,p d≠none→A d)→Q S'→ai G p E' S' w'→TR E' S'.t a'→Q0 Qc .normal a' w') :
    ∀ (fuel:Nat) (listed:Array Bool) (p:Nat→Option (List AV)) (S:St) (E:Env) (a:Act) (w:World),(∀ d,p d≠none→A d)→ai G p E S w→TR E S.t a→Inv C.P p aj listed→Closed aj listed→tE C pl aj (bV aj.toList []) fuel listed S Q→wpAny C.P .any aj (Q0 Qc) fuel listed a w
  | 0,listed,p,S,E,a,w,hA,hM,ht,hI,hcl,h=>mG hC hap hg hQ 0 listed p S E a w hA hM ht hI (qV hD 0 listed S hcl h)
  | fuel + 1,listed,p,S,E,a,w,hA,hM,ht,hI,hcl,h=>by
    unfold tE at h
    split at h
    · rename_i i hi
      obtain ⟨hm,o,ho,hp,hf⟩:=pt hi
      obtain ⟨hc0,hgd,_,hnal⟩:=BS (pl:=pl) hp
      unfold xv at h
      rw [ho] at h
      dsimp only at h
      unfold ag at h
      rw [hgd] at h
      obtain ⟨_,h⟩:=ac h
      unfold wx at h
      rw [hc0] at h
      obtain ⟨vs,h,hv⟩:=cY ht h
      obtain ⟨r,z,hk,hr,hrun⟩:=BU hp h hv
      rw [aE] at hk
      refine wpAny_take ho hs hf (by simpa using hm) (fun c a w hq=>absurd hq.1 (fun h=>by cases h)) (v:=z) (.inl ⟨by unfold Region.wanted; rw [hgd],hrun⟩) ?_
      have hI':=hI.step hap ho
      rw [kC hnal] at hI'
      exact vL hD hC hs hap hg hQ fuel _ p _ E _ w hA (hM.congr cu cv cC) (ht.put hr) hI' (hcl.set hm) hk
    · exact mG hC hap hg hQ (fuel + 1) listed p S E a w hA hM ht hI (qV hD (fuel + 1) listed S hcl h)
theorem vM {o:Oper} {e:TypeId} {d:Nat} (h1:o.op=.alloc e) (h2:o.dst=some d):∀ {os:List Oper},o∈os→(d,e)∈cr os:=by
  intro os
  induction os with
  | nil=>intro h; cases h
  | cons x xs ih =>
    intro h
    rcases List.mem_cons.1 h with rfl | h
    · unfold cr
      rw [h1,h2]
      exact List.mem_cons_self
    · have:=ih h
      unfold cr
      split
      · exact List.mem_cons_of_mem _ this
      · exact this
theorem Ar {d:Nat}:∀ {xs:List Nat},d∈xs→cO xs d=true:=by
  intro xs
  induction xs with
  | nil=>intro h; cases h
  | cons x xs ih =>
    intro h
    rcases List.mem_cons.1 h with rfl | h
    · simp [cO]
    · simp [cO,ih h]
theorem As {pl:bK} {x:Oper} {xs:List Oper} (hB:jT pl (cr (x::xs))=true):jT pl (cr xs)=true:=by
  unfold cr at hB
  split at hB
  · unfold jT at hB
    simp only [Bool.and_eq_true] at hB
    exact hB.2
  · exact hB
theorem qX {pl:bK} {o o':Oper} {e e':TypeId} {d:Nat} (h3:o.op=.alloc e) (h4:o'.op=.alloc e') (h5:o.dst=some d) (h6:o'.dst=some d):∀ (os:List Oper),jT pl (cr os)=true→∀ (i i':Nat),i<i'→os[i]?=some o→os[i']?=some o'→False:=by
  intro os
  induction os with
  | nil=>intro _ i i' _ h1; simp at h1
  | cons x xs ih =>
    intro hB i i' hlt h1 h2
    cases i' with
    | zero=>omega
    | succ i' =>
      rw [List.getElem?_cons_succ] at h2
      cases i with
      | zero =>
        rw [List.getElem?_cons_zero] at h1
        cases h1
        have hm:=vM h4 h6 (List.mem_of_getElem? h2)
        unfold cr at hB
        rw [h3,h5] at hB
        unfold jT at hB
        simp only [Bool.and_eq_true,Bool.not_eq_true'] at hB
        have:=Ar (d:=d) (xs:=(cr xs).map (·.1)) (List.mem_map.2 ⟨_,hm,rfl⟩)
        rw [hB.1.2] at this
        cases this
      | succ i =>
        rw [List.getElem?_cons_succ] at h1
        exact ih (As hB) i i' (by omega) h1 h2
theorem Au {o:Oper} {e:TypeId} (ho:o.op=.alloc e):∀ {os:List Oper},ue os=true→o∈os→o.guard=none:=by
  intro os
  induction os with
  | nil=>intro _ h; cases h
  | cons x xs ih =>
    intro h hm
    unfold ue at h
    simp only [Bool.and_eq_true] at h
    rcases List.mem_cons.1 hm with rfl | hm
    · have h1:=h.1
      cases hg:o.guard with
      | none=>rfl
      | some g=>rw [ho,hg] at h1; cases h1
    · exact ih h.2 hm
section
variable {G:Gh} {w:World} {a:Act} {P:Program}
theorem tj:∀ {ds:List Nat} {E:Env} {S:St} {K:St→Prop},ai G pn E S w→TR E S.t a→mg ds S K→∃ S' E',K S'∧ai G pn E' S' w∧TR E' S'.t a∧∀ d,(E.mu (.L d)=none∨d∈ds)→E'.mu (.L d)=none
  | [],E,S,K,hM,ht,h=>⟨S,E,h,hM,ht,fun d hd=>by rcases hd with hd | hd; exact hd; cases hd⟩
  | d::ds,E,S,K,hM,ht,h=>by
    unfold mg at h
    rw [xE] at h
    obtain ⟨E1,h1,h2,h3,_,_,_,_,h4,_,_⟩:=pT hM ht d rfl
    obtain ⟨S',E',h5,h6,h7,h8⟩:=tj h1 h2 h
    refine ⟨S',E',h5,h6,h7,fun e he=>h8 e ?_⟩
    by_cases hed:e=d
    · subst hed; exact .inl h3
    · rcases he with he | he
      · exact .inl ((h4 e hed).trans he)
      · rcases List.mem_cons.1 he with he | he
        · exact absurd he hed
        · exact .inr he
theorem x4 {pl:bK} {E:Env}:∀ {xs:List (Nat×TypeId)} {S:St} {p:Nat→Option (List AV)} {K:St→Prop},ai G p E S w→(∀ d∈xs.map (·.1),E.mu (.L d)=none)→jT pl xs=true→yw P xs S K →
    ∃ S' p',K S'∧ai G p' E S' w∧S'.t=S.t∧(∀ d e,(d,e)∈xs→∃ cs,p' d=some cs∧0<cs.length∧ZR P e cs)∧∀ d,d ∉ xs.map (·.1)→p' d=p d
  | [],S,p,K,hM,_,_,h=>⟨S,p,h,hM,rfl,fun _ _ h=>(by cases h),fun _ _=>rfl⟩
  | (d,e)::xs,S,p,K,hM,hmu,hB,h=>by
    unfold yw at h
    obtain ⟨cs,hz,h,hinv⟩:=vK h
    replace h:=ac h; obtain ⟨hpos,h⟩:=h
    have hpos':0<cs.length:=Nat.le_of_ble_eq_true hpos
    have hd0:=hmu d (by simp)
    unfold jT at hB
    simp only [Bool.and_eq_true,Bool.not_eq_true'] at hB
    have hnd:d ∉ xs.map (·.1):=fun hm=>by
      have:=Ar hm
      rw [hB.1.2] at this
      cases this
    have hM1:ai G (fun x=>if x=d then some cs else p x) E { t:=S.t,l:=(d,cs)::S.l,o:=S.o,b:=S.b } w :=
      ⟨hM.hp,hM.os,hM.tape,hM.output,hM.size,hM.keep,hM.F0,hM.Flt,hM.Fnew,hM.own,hM.inj,fun x=>by
        show gB _ E (if d=x then some cs else aJ S.l x) x
        by_cases hx:d=x
        · subst hx
          rw [if_pos rfl]
          exact .inr ⟨hd0,by simp,hinv⟩
        · rw [if_neg hx]
          exact (hM.loc x).congr (if_neg fun h=>hx h.symm),hM.obj,hM.old,hM.bl,hM.szs,fun x row hx=>by
        show E.mu (.L x)=none∧(if d=x then some cs else aJ S.l x)=some row
        by_cases hxd:x=d
        · subst hxd
          rw [if_pos rfl] at hx ⊢
          exact ⟨hd0,hx⟩
        · rw [if_neg hxd] at hx
          rw [if_neg (fun h=>hxd h.symm)]
          exact hM.pk x row hx,hM.ow⟩
    obtain ⟨S',p',h1,h2,h3,h4,h5⟩:=x4 (xs:=xs) hM1 (fun x hx=>hmu x (by simp only [List.map_cons]; exact List.mem_cons_of_mem _ hx)) hB.2 h
    refine ⟨S',p',h1,h2,h3,fun x y hxy=>?_,fun x hx=>?_⟩
    · rcases List.mem_cons.1 hxy with hxy | hxy
      · cases hxy
        refine ⟨cs,?_,hpos',hz⟩
        rw [h5 d hnd]
        simp
      · exact h4 x y hxy
    · have hx':x≠d∧x ∉ xs.map (·.1):=⟨fun he=>hx (by rw [he]; simp),fun hm=>hx (by simp only [List.map_cons]; exact List.mem_cons_of_mem _ hm)⟩
      rw [h5 x hx'.2]
      simp [hx'.1]
theorem x6:∀ {xs:List (Nat×TypeId)} {S:St} {X:Prop},km xs S X→∀ d∈xs.map (·.1),∃ i j,S.t[d]?=some (.ptr (.L d) i j)
  | [],_,_,_,d,hd=>by cases hd
  | (d0,e)::xs,S,X,h,d,hd=>by
    unfold km at h
    obtain ⟨c,hc,h⟩:=ca.1 h
    split at h
    · rename_i d' i j
      obtain ⟨hb,h⟩:=ac h
      simp only [List.map_cons] at hd
      rcases List.mem_cons.1 hd with rfl | hd
      · have:=Nat.eq_of_beq_eq_true hb
        subst this
        exact ⟨i,j,hc⟩
      · exact x6 h d hd
    · exact False.elim h
end
theorem Cv {C:Ctx} (hmix:C.P.follows .mixedOrders=true) (hD:gd C) (hC:d5 C):ll C:=by
  intro pl id aj S K h r G E a w Q hM ht hQ
  have h':bF (sT pl aj) (wA C.P (cr aj.toList) S fun S1=>wz C pl aj S1 fun S'=>km (cr aj.toList) S' (jL pl id S' fun S''=>K .nrm S'')):=h
  obtain ⟨hB,h1⟩:=ac h'
  unfold sT at hB
  simp only [Bool.and_eq_true] at hB
  obtain ⟨hal,hgd⟩:=hB
  unfold wA at h1
  obtain ⟨S1,E1,h2,hM1,ht1,hmu⟩:=tj hM ht h1
  obtain ⟨S2,p2,h3,hM2,ht2,hrow,hout⟩:=x4 hM1 (fun d hd=>hmu d (.inr hd)) hal h2
  refine wpIn_region_any hmix ?_
  obtain ⟨hnd,h3⟩:=ac h3
  obtain ⟨hns,hnd⟩:=EZ hnd
  have hcl:Closed aj (Array.replicate aj.size false):=fun j hj=>by
    simp only [Array.getD_eq_getD_getElem?,Array.getElem?_replicate] at hj
    split at hj <;> simp at hj
  refine qW hnd _ _ _ _ ?_
  have h4:tE C pl aj (bV aj.toList []) aj.size (Array.replicate aj.size false) S2 (fun S'=>km (cr aj.toList) S' (jL pl id S' fun S''=>K .nrm S''))∨An C pl aj (fun S'=>km (cr aj.toList) S' (jL pl id S' fun S''=>K .nrm S'')) aj.size (Array.replicate aj.size false) S2:=by
    split at h3
    · exact .inr (qV hD _ _ _ hcl h3)
    · exact .inl h3
  have hap1:yY aj:=by
    intro i i' o o' e e' d h1 h2 h3 h4 h5 h6
    rcases Nat.lt_trichotomy i i' with hlt | heq | hlt
    · exact (qX h3 h4 h5 h6 _ hal i i' hlt (by rw [Array.getElem?_toList]; exact h1) (by rw [Array.getElem?_toList]; exact h2)).elim
    · exact heq
    · exact (qX h4 h3 h6 h5 _ hal i' i hlt (by rw [Array.getElem?_toList]; exact h2) (by rw [Array.getElem?_toList]; exact h1)).elim
  have hg1:∀ (i:Nat) (o:Oper) (e:TypeId),aj[i]?=some o→o.op=.alloc e→o.guard=none:=fun i o e h1 h2=>Au h2 hgd (List.mem_of_getElem? (by rw [Array.getElem?_toList]; exact h1))
  have hQ1:∀ p S' E' a' w',(∀ d,p d≠none→d∈(cr aj.toList).map (·.1))→km (cr aj.toList) S' (jL pl id S' fun S''=>K .nrm S'')→ai G p E' S' w'→TR E' S'.t a'→Q0 Q .normal a' w':=by
    intro p S' E' a' w' hp hk hS htr
    refine ⟨rfl,?_⟩
    have hps:=x6 hk
    have hpn:p=pn:=by
      funext d
      cases hd:p d with
      | none=>rfl
      | some row =>
        exfalso
        obtain ⟨i,j,hij⟩:=hps d (hp d (by rw [hd]; exact fun h=>by cases h))
        have hlt:d<a'.tmps.size:=by rw [← htr.len]; exact (List.getElem?_eq_some_iff.1 hij).1
        have hv:=htr.val d _ _ hij (Array.getElem?_eq_getElem hlt)
        have hne:∃ y,E'.mu (.L d)=some y:=by
          generalize a'.tmps[d]=u at hv
          cases hv with
          | ptr _ _ hs0 hm=>exact ⟨_,hm⟩
        obtain ⟨y,hy⟩:=hne
        have:=(hS.pk d row hd).1
        rw [hy] at this
        cases this
    subst hpn
    obtain ⟨S2,E2,h2,hS2,ht2⟩:=kX hS htr (lT hk).1
    exact hQ .nrm _ E2 _ _ h2 hS2 ht2
  have hA1:∀ d,p2 d≠none→d∈(cr aj.toList).map (·.1):=by
    intro d hd
    cases Classical.em (d∈(cr aj.toList).map (·.1)) with
    | inl h=>exact h
    | inr h=>exact (hd ((hout d h).trans rfl)).elim
  have hI1:Inv C.P p2 aj (Array.replicate aj.size false):=by
    intro i o e d h1 h2 h3 _
    exact hrow d e (vM h2 h3 (List.mem_of_getElem? (by rw [Array.getElem?_toList]; exact h1)))
  rcases h4 with h4 | h4
  · exact vL hD hC hns hap1 hg1 hQ1 aj.size _ p2 S2 E1 a _ hA1 hM2.drawn (by rw [ht2]; exact ht1) hI1 hcl h4
  · exact mG hC hap1 hg1 hQ1 aj.size _ p2 S2 E1 a _ hA1 hM2.drawn (by rw [ht2]; exact ht1) hI1 h4
theorem BV {cfg:oR} (hX:H7 cfg) (hN:kZ cfg.P) (hmix:cfg.P.follows .mixedOrders=true) (n:Nat):d5 (f9 cfg n)∧mw (f9 cfg n)∧ll (f9 cfg n) :=
  Gf hX.pure hX.sound hN (vy hX) (fun n h=>Cv (by rw [mz]; exact hmix) (lU hX n) h) n
open Go.RowKit Go.WideShapes Go.ChangeShapes
section
variable {H:Type} {enc:TypeId×Value→H} {P:Program}
theorem wS {f:Func} {s:ChangeSpec} {apart fresh handsOn again:Bool} {W W':World} {args:Array Value} {v:Value} {ds gs:List (DataW H)} {before pa pv:List MemPlace}
    (hW:DataW.Whole enc P f.params.toList s.vars apart W args.toList ds gs before)
    (hres:∀ (b:Nat) (sp:Nat→Bool) (hd:Bool),DataW.TrodAll enc P W' b sp hd f.resultTypes.toList (v.resultList f.resultTypes.size) (s.fn H (ds++gs)).results [])
    (hargs:∀ sp:Nat→Bool,(∀ p∈before,sp p.block=true)→DataW.TrodAll enc P W' 0 sp true f.params.toList args.toList (s.fn H (ds++gs)).args pa)
    (hvars:∀ sp:Nat→Bool,(∀ p∈before,sp p.block=true)→DataW.TrodVars enc P W' sp s.vars (s.fn H (ds++gs)).vars pv)
    (hps:before=pa++pv) (hb:Below W.heap.size W W')
    (hok:∀ (j:Nat) (t:TypeId) (r:Value),f.resultTypes[j]?=some t→(v.resultList f.resultTypes.size)[j]?=some r→Value.okWide P W' .any 0 t r) :
    s.post enc P f apart fresh handsOn again W args v W':=by
  have hlt:∀ p∈before,p.block<W.heap.size:=fun p hp=>hW.lt p hp
  have hold:∀ p∈before,(fun b=>decide (b<W.heap.size)) p.block=true:=fun p hp=>by simpa using hlt p hp
  refine ⟨ds,gs,before,[],pa,pv,hW,hres _ _ _,hargs _ hold,hvars _ hold,World.keptBut_mono (fun p hp=>⟨hp,?_⟩) (hb.frame (·∈before)),fun _=>?_⟩
  · rw [hps,List.mem_append] at hp
    exact Or.inr hp
  · obtain ⟨_,_,_,_,_,hz,hn⟩:=hW
    refine ⟨hok,_,_,([]++pa)++pv,⟨[]++pa,pv,trodAll_append (hargs _ (fun _ _=>rfl)) (hres _ _ _),hvars _ (fun _ _=>rfl),rfl,?_,?_⟩,?_⟩
    · intro b off hp
      have hin:MemPlace.cell b off∈before:=by rw [hps]; simpa using hp
      rw [hb.frozen (hlt _ hin)]
      exact hz b off hin
    · intro ha
      have:=hn ha
      rw [hps] at this
      simpa using this
    · intro p hp _
      rw [hps]
      simpa using hp
end
def GU (cfg:oR) (n f:Nat) (args:List AV) (r:AV):Prop:=qz (f9 cfg n) f args fun x=>x=r
theorem Av {P : Program} (h : (P.funcs.all fun fn => !(fn.name == "runtime.NumGoroutine")) = true) : kZ P := by
  intro f fn hf
  have hlt:f<P.funcs.size:=(Array.getElem?_eq_some_iff.1 hf).1
  have:=Array.all_eq_true.1 h f hlt
  rw [Array.getElem?_eq_getElem hlt] at hf
  cases hf
  simpa using this
def iM (P:Program) (_pl:bK) (c:Code) (S:St) (K:Ex→St→Prop):Prop :=
  ∃ n e S',(∀ (r:Option Nat) (G:Gh) (E:Env) (a:Act) (w:World) (Q:Exit→Act→World→Prop),ai G pn E S w→TR E S.t a→EM G (fun e' S''=>e'=e∧S''=S') Q→Code.roundsIn (rd r) 0 P c Q n a w)∧K e S'
def SD (P:Program) (f:Nat) (args:List AV) (o:List Ob) (K:AV→List Ob→Prop):Prop :=
  ∃ r o',pf P f args o (fun r' o''=>r'=r∧o''=o')∧K r o'
def iH (cfg:oR):Ctx:={ P:=cfg.P,pure:=cfg.pure,pol:=cfg.pol,pcall:=d9 cfg.P,scall:=SD cfg.P,loop:=iM cfg.P }
theorem pf.mono {P:Program} {f:Nat} {args:List AV} {o:List Ob} {K K':AV→List Ob→Prop} (h:pf P f args o K) (hk:∀ r o',K r o'→K' r o'):pf P f args o K' :=
  ⟨h.1,fun E w us hM hg hv=>(h.2 E w us hM hg hv).mono fun _ _ ⟨v,r,o',E',h1,h2,h3,h4⟩=>⟨v,r,o',E',hk _ _ h1,h2,h3,h4⟩⟩
theorem SD.out {P:Program} {f:Nat} {args:List AV} {o:List Ob} {K:AV→List Ob→Prop} (h:SD P f args o K):pf P f args o K:=by
  obtain ⟨r,o',h1,h2⟩:=h
  exact h1.mono fun _ _ ⟨e1,e2⟩=>by rw [e1,e2]; exact h2
theorem j4 (cfg:oR):d5 (iH cfg):=⟨fun _ _ _ h=>h,fun _ _ _ _ h=>h.out⟩
theorem nS (cfg:oR):gd (iH cfg) :=
  ⟨fun _ _ _ ⟨r,h1,h2⟩=>⟨r,h2,fun _ h=>⟨r,h1,h⟩⟩,fun _ _ _ _ ⟨r,o',h1,h2⟩=>⟨r,o',h2,fun _ h=>⟨r,o',h1,h⟩⟩,fun _ _ _ _ ⟨n,e,S',h1,h2⟩=>⟨e,S',h2,fun _ h=>⟨n,e,S',h1,h⟩⟩⟩
theorem j5 (cfg:oR):mw (iH cfg):=by
  rintro pl c S K ⟨n,e,S',h1,h2⟩ r G E a w Q hM ht hQ
  exact wpIn_loop_rounds n (h1 r G E a w Q hM ht fun e' S'' E' a' w' ⟨e1,e2⟩ hS htr=>by subst e1 e2; exact hQ _ _ _ _ _ h2 hS htr)
theorem lV {cfg:oR} (hmix:cfg.P.follows .mixedOrders=true):ll (iH cfg):=Cv hmix (nS cfg) (j4 cfg)
theorem iM.step {cfg:oR} (hmix:cfg.P.follows .mixedOrders=true) {pl:bK} {c:Code} {S:St} {K:Ex→St→Prop}
    (h:gA (iH cfg) pl c S fun e S'=>match e with
      | .nrm=>iM cfg.P pl c S' K
      | .ex i=>K (.ex i) S'
      | .ret=>K .ret S'):iM cfg.P pl c S K:=by
  obtain ⟨e1,S1,h1,h2⟩:=sf (nS cfg) c _ h
  have run:∀ (e:Ex) (S2:St) (n:Nat),(∀ (r:Option Nat) (G:Gh) (E:Env) (a:Act) (w:World) (Q:Exit→Act→World→Prop),ai G pn E S1 w→TR E S1.t a→EM G (fun e' S''=>e'=e∧S''=S2) Q→Exit.then (Code.roundsIn (rd r) 0 cfg.P c Q n) Q (Gd e1) a w) →
      ∀ (r:Option Nat) (G:Gh) (E:Env) (a:Act) (w:World) (Q:Exit→Act→World→Prop),ai G pn E S w→TR E S.t a→EM G (fun e' S''=>e'=e∧S''=S2) Q→Code.roundsIn (rd r) 0 cfg.P c Q (n + 1) a w:=by
    intro e S2 n hn r G E a w Q hM ht hQ
    refine nI (j4 cfg) (j5 cfg) (lV hmix) c (h2 (fun e' S'=>e'=e1∧S'=S1) ⟨rfl,rfl⟩) r G E a w _ hM ht (fun e' S' E' a' w' hk hS htr=>?_)
    obtain ⟨rfl,rfl⟩:=hk
    exact hn r G E' a' w' Q hS htr hQ
  cases e1 with
  | nrm =>
    obtain ⟨n,e,S',hl,hk⟩:=h1
    exact ⟨n + 1,e,S',run e S' n (fun r G E a w Q hM ht hQ=>hl r G E a w Q hM ht hQ),hk⟩
  | ex i=>exact ⟨1,.ex i,S1,run _ _ 0 (fun r G E a w Q hM ht hQ=>hQ _ _ _ _ _ ⟨rfl,rfl⟩ hM ht),h1⟩
  | ret=>exact ⟨1,.ret,S1,run _ _ 0 (fun r G E a w Q hM ht hQ=>hQ _ _ _ _ _ ⟨rfl,rfl⟩ hM ht),h1⟩
theorem d9.mono {P:Program} {f:Nat} {args:List AV} {K K':AV→Prop} (h:d9 P f args K) (hk:∀ r,K r→K' r):d9 P f args K' :=
  let ⟨r,h1,h2⟩:=h
  ⟨r,h1,hk _ h2⟩
theorem iM.mono {P:Program} {pl:bK} {c:Code} {S:St} {K K':Ex→St→Prop} (h:iM P pl c S K) (hk:∀ e S',K e S'→K' e S'):iM P pl c S K' :=
  let ⟨n,e,S',h1,h2⟩:=h
  ⟨n,e,S',h1,hk _ _ h2⟩
theorem SD.mono {P:Program} {f:Nat} {args:List AV} {o:List Ob} {K K':AV→List Ob→Prop} (h:SD P f args o K) (hk:∀ r o',K r o'→K' r o'):SD P f args o K' :=
  let ⟨r,o',h1,h2⟩:=h
  ⟨r,o',h1,hk _ _ h2⟩
theorem d9.of {cfg:oR} (hN:kZ cfg.P) (hmix:cfg.P.follows .mixedOrders=true) {f:Nat} {args:List AV} {K:AV→Prop} (h:qz (iH cfg) f args K):d9 cfg.P f args K :=
  nJ (j4 cfg) (j5 cfg) (lV hmix) hN (fun f args K h=>by
    obtain ⟨r,h1,h2⟩:=sg (nS cfg) K h
    exact ⟨r,h1,h2 _ rfl⟩) h
theorem SD.of {cfg:oR} (hN:kZ cfg.P) (hmix:cfg.P.follows .mixedOrders=true) {f:Nat} {args:List AV} {o:List Ob} {K:AV→List Ob→Prop} (h:rR (iH cfg) f args o K):SD cfg.P f args o K:=by
  obtain ⟨r,o',h1,h2⟩:=vw (nS cfg) K h
  exact ⟨r,o',qP (j4 cfg) (j5 cfg) (lV hmix) hN (h2 _ ⟨rfl,rfl⟩),h1⟩
theorem d9.ofN {cfg:oR} (hX:H7 cfg) (hN:kZ cfg.P) (hmix:cfg.P.follows .mixedOrders=true) {n f:Nat} {args:List AV} {r:AV} (h:GU cfg n f args r):d9 cfg.P f args fun x=>x=r:=by
  obtain ⟨h1,h2,h3⟩:=BV hX hN hmix n
  have hP:=mz cfg n
  have:=nJ h1 h2 h3 (by rw [hP]; exact hN) (vy hX n) h
  rw [hP] at this
  exact this
theorem BW {P:Program} {f:Nat} {args:List AV} (h:d9 P f args fun x=>x=.v (.bool true)) (F:Nat→Prop) (w:World) (us:Array Value) (hF:∀ b,F b→b<w.heap.size) (hg:Bm ⟨F,fun _=>none,w.heap⟩) (hv:b7 ⟨F,fun _=>none,w.heap⟩ args us.toList) :
    Calls P f us w fun e w'=>e=.returned (.bool true)∧Go.RowKit.Below w.heap.size w w':=by
  obtain ⟨r,⟨_,h4⟩,rfl⟩:=h
  refine (h4 F w us hF hg hv).mono ?_
  rintro e w' ⟨v,F',rfl,hv,hb,_⟩
  exact ⟨by rw [hv.vI.1],hb⟩
open Go.ChangeShapes Go.WideShapes
def yZ (P:Program):List Field→Nat→Bool
  | [],_=>true
  | f::fs,k=>Nat.beq f.offset k&&yZ P fs (k + P.cellsOf f.type)
def tk (P:Program):Nat→TypeId→Bool
  | 0,_=>false
  | n + 1,t =>
    match P.underlying t with
    | some .bool | some (.int _) | some .string=>true
    | some (.slice e)=>Nat.blt 0 (P.cellsOf e)&&tk P n e
    | some (.struct fs)=>yZ P fs.toList 0&&Nat.beq (fs.toList.foldl (fun s f=>s + P.cellsOf f.type) 0) (P.cellsOf t)&&fs.toList.all fun f=>tk P n f.type
    | _=>false
def dy {H:Type} (P:Program):Nat→TypeId→DataW H→Bool
  | 0,_,_=>false
  | n + 1,t,d =>
    match P.underlying t,d with
    | some .bool,.lit (.bool _)=>true
    | some (.int k),.lit (.int k' m)=>decide (k'=k)&&(Lit.int k m).wf
    | some .string,.lit (.string bs)=>decide (bs.length≤maxLen)
    | some (.slice _),.nil=>true
    | some (.slice e),.slice xs _=>decide (xs.length≤maxLen)&&xs.all (dy P n e)
    | some (.struct fs),.agg ds=>Nat.beq ds.length fs.size&&(fs.toList.zip ds).all fun x=>dy P n x.1.type x.2
    | _,_=>false
def g7 {H:Type} (P:Program):Nat→TypeId→DataW H→List AV
  | 0,_,_=>[]
  | n + 1,t,d =>
    match P.underlying t,d with
    | some .bool,.lit (.bool b)=>[.v (.bool b)]
    | some (.int k),.lit (.int _ m)=>[.v (.int k m)]
    | some .string,.lit (.string bs)=>[.v (.string ⟨bs.toArray⟩)]
    | some (.slice _),.nil=>[.nilsl]
    | some (.slice e),.slice xs _=>[.sl (xs.map (g7 P n e))]
    | some (.struct fs),.agg ds=>(fs.toList.zip ds).flatMap fun x=>g7 P n x.1.type x.2
    | _,_=>[]
def t6 (w:World):Env:=⟨fun b=>b<w.heap.size,fun _=>none,w.heap⟩
theorem vN {α β:Type} {f:α→Option β}:∀ {xs:List α} {ys:List β},xs.mapM f=some ys→xs.length=ys.length∧∀ (i:Nat) (x:α),xs[i]?=some x→∃ y,ys[i]?=some y∧f x=some y
  | [],ys,h=>by
    simp at h
    subst h
    exact ⟨rfl,fun i x h=>by simp at h⟩
  | x::xs,ys,h=>by
    rw [List.mapM_cons] at h
    simp only [Option.pure_def,Option.bind_eq_bind,Option.bind_eq_some_iff,Option.some.injEq] at h
    obtain ⟨y,hy,ys',hys,rfl⟩:=h
    obtain ⟨h1,h2⟩:=vN hys
    refine ⟨by simp [h1],fun i z hz=>?_⟩
    cases i with
    | zero =>
      simp only [List.getElem?_cons_zero,Option.some.injEq] at hz
      subst hz
      exact ⟨y,rfl,hy⟩
    | succ i=>exact h2 i z (by simpa using hz)
theorem qb {w:World} {a:Addr} {v:Value} (h:w.cell? a=some v):a.spot=none∧a.block<w.heap.size∧dO w.heap a.block a.off=some v:=by
  unfold World.cell? at h
  split at h
  · rename_i c t fr hb
    split at h
    · cases h
    · rename_i hs
      refine ⟨by simpa using hs,(Array.getElem?_eq_some_iff.1 hb).1,?_⟩
      unfold dO
      rw [hb]
      exact h
  · cases h
theorem vO (P:Program):∀ (fs:List Field) (k:Nat),fs.foldl (fun s f=>s + P.cellsOf f.type) k=k + fs.foldl (fun s f=>s + P.cellsOf f.type) 0
  | [],k=>by simp
  | f::fs,k=>by
    rw [List.foldl_cons,List.foldl_cons,vO P fs (k + _),vO P fs (0 + _)]
    omega
theorem vP {α:Type} {sz:Nat}:∀ {rows:List (List α)} {m:Nat} {c:α},0<sz→(∀ r∈rows,r.length=sz)→rows.flatten[m]?=some c→∃ r,rows[m / sz]?=some r∧r[m % sz]?=some c
  | [],m,c,_,_,h=>by simp at h
  | r::rs,m,c,hs,hr,h=>by
    have h0:=hr r List.mem_cons_self
    rw [List.flatten_cons] at h
    by_cases hm:m<sz
    · rw [List.getElem?_append_left (by omega)] at h
      refine ⟨r,?_,?_⟩
      · rw [Nat.div_eq_of_lt hm]; rfl
      · rw [Nat.mod_eq_of_lt hm]; exact h
    · rw [List.getElem?_append_right (by omega),h0] at h
      obtain ⟨r',h1,h2⟩:=vP (rows:=rs) hs (fun r h=>hr r (List.mem_cons_of_mem _ h)) h
      have e1:m / sz=(m - sz) / sz + 1:=by
        rw [← Nat.add_div_right _ hs]
        congr 1
        omega
      have e2:m % sz=(m - sz) % sz:=by
        rw [Nat.mod_eq_sub_mod (by omega)]
      rw [e1,e2,List.getElem?_cons_succ]
      exact ⟨r',h1,h2⟩
section
variable {H:Type} {enc:TypeId×Value→H} {P:Program} {w:World} {sp:Nat→Bool}
theorem Gk:(t6 w).fz=t6 w:=rfl
theorem x8 {n:Nat} {base:Nat} {fuel:Nat} (ih:∀ {fuel:Nat} {t:TypeId} {cs:List Value} {d:DataW H} {ps:List MemPlace},tk P n t=true→cs.length=P.cellsOf t→DataW.trod enc P w base sp true fuel t cs=some (d,ps)→dy P n t d=true∧b7 (t6 w) (g7 P n t d) cs) :
    ∀ (fs:List Field) (k:Nat) (cs:List Value) (xs:List (DataW H×List MemPlace)),yZ P fs k=true→k + fs.foldl (fun s f=>s + P.cellsOf f.type) 0=cs.length→(fs.all fun f=>tk P n f.type)=true →
      fs.mapM (fun f=>DataW.trod enc P w base sp true fuel f.type ((cs.drop f.offset).take (P.cellsOf f.type)))=some xs →
      ((fs.zip (xs.map (·.1))).all fun x=>dy P n x.1.type x.2)=true∧b7 (t6 w) ((fs.zip (xs.map (·.1))).flatMap fun x=>g7 P n x.1.type x.2) (cs.drop k)
  | [],k,cs,xs,_,hl,_,h=>by
    simp at h
    subst h
    simp at hl
    refine ⟨rfl,?_⟩
    rw [List.drop_eq_nil_of_le (by omega)]
    exact .nil _
  | f::fs,k,cs,xs,hc,hl,hg,h=>by
    rw [List.mapM_cons] at h
    simp only [Option.pure_def,Option.bind_eq_bind,Option.bind_eq_some_iff,Option.some.injEq] at h
    obtain ⟨y,hy,ys,hys,rfl⟩:=h
    unfold yZ at hc
    simp only [Bool.and_eq_true] at hc
    have hoff:=Nat.eq_of_beq_eq_true hc.1
    simp only [List.all_cons,Bool.and_eq_true] at hg
    rw [List.foldl_cons,vO] at hl
    rw [hoff] at hy
    have hlen:((cs.drop k).take (P.cellsOf f.type)).length=P.cellsOf f.type:=by simp; omega
    obtain ⟨h1,h2⟩:=ih (ps:=y.2) hg.1 hlen hy
    obtain ⟨h3,h4⟩:=x8 ih fs (k + P.cellsOf f.type) cs ys hc.2 (by omega) hg.2 hys
    refine ⟨by simp [h1,h3],?_⟩
    show b7 _ (g7 P n f.type y.1++_) _
    have:=h2.append h4
    rw [← List.drop_drop,List.take_append_drop] at this
    exact this
theorem ul {base:Nat}:∀ (n:Nat) {fuel:Nat} {t:TypeId} {cs:List Value} {d:DataW H} {ps:List MemPlace},tk P n t=true→cs.length=P.cellsOf t→DataW.trod enc P w base sp true fuel t cs=some (d,ps)→dy P n t d=true∧b7 (t6 w) (g7 P n t d) cs
  | 0,_,_,_,_,_,h,_,_=>by cases h
  | n + 1,0,_,_,_,_,_,_,h=>by simp [DataW.trod] at h
  | n + 1,fuel + 1,t,cs,d,ps,hg,hlen,h=>by
    have one:∀ {c:AV} {u:Value},VR (t6 w) c u→b7 (t6 w) [c] [u]:=fun h=>.cons h (.nil _)
    unfold tk at hg
    unfold DataW.trod at h
    split at hg
    · rename_i hu
      rw [hu] at h
      split at h <;> first | (simp_all; done) | skip
      rename_i b _ _
      simp only [Option.some.injEq,Prod.mk.injEq] at h
      obtain ⟨rfl,_⟩:=h
      refine ⟨by unfold dy; rw [hu],?_⟩
      unfold g7
      rw [hu]
      exact one (.v _ _ rfl)
    · rename_i k hu
      rw [hu] at h
      split at h <;> first | (simp_all; done) | skip
      rename_i k' kk m e2
      cases e2
      split at h
      · rename_i hk
        simp only [Option.some.injEq,Prod.mk.injEq] at h
        obtain ⟨rfl,_⟩:=h
        obtain ⟨hkk,hwf⟩:=hk
        subst hkk
        refine ⟨by unfold dy; rw [hu]; simp [hwf],?_⟩
        unfold g7
        rw [hu]
        exact one (.v _ _ rfl)
      · cases h
    · rename_i hu
      rw [hu] at h
      split at h <;> first | (simp_all; done) | skip
      rename_i s e2
      split at h
      · rename_i hs
        simp only [Option.some.injEq,Prod.mk.injEq] at h
        obtain ⟨rfl,_⟩:=h
        refine ⟨by unfold dy; rw [hu]; simpa using hs,?_⟩
        unfold g7
        rw [hu]
        have:(⟨s.data.toList.toArray⟩:ByteArray)=s:=by cases s; simp
        dsimp only
        rw [this]
        exact one (.v _ _ rfl)
      · cases h
    · rename_i e hu
      simp only [Bool.and_eq_true] at hg
      have hsz:0<P.cellsOf e:=Nat.le_of_ble_eq_true hg.1
      rw [hu] at h
      split at h <;> first | (simp_all; done) | skip
      · simp only [Option.some.injEq,Prod.mk.injEq] at h
        obtain ⟨rfl,_⟩:=h
        refine ⟨by unfold dy; rw [hu],?_⟩
        unfold g7
        rw [hu]
        exact one (.nilsl _)
      · rename_i e0 a len cap e2
        cases e2
        dsimp only at h
        split at h
        · rename_i hb
          simp only [Option.bind_eq_some_iff,Option.map_eq_some_iff,Prod.mk.injEq] at h
          obtain ⟨elems,he,rest,_,rfl,_⟩:=h
          obtain ⟨hl1,hget⟩:=vN he
          simp only [List.length_range] at hl1
          have hel:∀ (i:Nat) (y:DataW H×List MemPlace),elems[i]?=some y→∃ cs',(w.cells? base (a.add (i * P.cellsOf e)) (P.cellsOf e))=some cs'∧dy P n e y.1=true∧b7 (t6 w) (g7 P n e y.1) cs':=by
            intro i y hy
            have hi:i<len:=by rw [hl1]; exact (List.getElem?_eq_some_iff.1 hy).1
            obtain ⟨y',hy',hf⟩:=hget i i (by simp [hi])
            rw [hy] at hy'
            cases hy'
            simp only [Option.bind_eq_some_iff] at hf
            obtain ⟨cs',hc,ht⟩:=hf
            have hcl:=(World.cells?_some hc).2.1
            obtain ⟨h1,h2⟩:=ul n (ps:=y.2) hg.2 hcl ht
            exact ⟨cs',hc,h1,h2⟩
          refine ⟨?_,?_⟩
          · unfold dy
            rw [hu]
            simp only [Bool.and_eq_true,decide_eq_true_eq,List.length_map,List.all_eq_true,List.mem_map]
            refine ⟨by omega,?_⟩
            rintro x ⟨y,hy,rfl⟩
            obtain ⟨i,hi,hiy⟩:=List.getElem_of_mem hy
            obtain ⟨cs',_,h1,_⟩:=hel i y (by rw [List.getElem?_eq_getElem hi,hiy])
            exact h1
          · unfold g7
            rw [hu]
            refine one ?_
            cases hlen0:len with
            | zero =>
              have:elems=[]:=List.eq_nil_of_length_eq_zero (by omega)
              rw [this]
              exact .sle _ a cap
            | succ len' =>
              have hrow:∀ (i:Nat) (y:DataW H×List MemPlace),elems[i]?=some y→∃ cs',cs'.length=P.cellsOf e∧b7 (t6 w) (g7 P n e y.1) cs'∧∀ j,j<P.cellsOf e→w.cell? ((a.add (i * P.cellsOf e)).add j)=cs'[j]?:=by
                intro i y hy
                obtain ⟨cs',hc,_,h2⟩:=hel i y hy
                obtain ⟨_,h3,h4⟩:=World.cells?_some hc
                exact ⟨cs',h3,h2,h4⟩
              obtain ⟨y0,hy0⟩:∃ y0,elems[0]?=some y0:=⟨elems[0]'(by omega),List.getElem?_eq_getElem (by omega)⟩
              obtain ⟨c0,hc0,_,hat0⟩:=hrow 0 y0 hy0
              have h00:=hat0 0 hsz
              simp only [Nat.zero_mul,Addr.add,if_pos] at h00
              have hv0:c0[0]?=some (c0[0]'(by omega)):=List.getElem?_eq_getElem (by omega)
              rw [hv0] at h00
              obtain ⟨hspot,hblk,_⟩:=qb h00
              obtain ⟨b,off,spot⟩:=a
              simp only at hspot hblk
              subst hspot
              have hadd:∀ x,(⟨b,off,none⟩:Addr).add x=⟨b,off + x,none⟩:=fun x=>by unfold Addr.add; split <;> simp_all
              have hrl:∀ r∈(elems.map (·.1)).map (g7 P n e),r.length=P.cellsOf e:=by
                intro r hr
                simp only [List.map_map,List.mem_map] at hr
                obtain ⟨y,hy,rfl⟩:=hr
                obtain ⟨i,hi,hiy⟩:=List.getElem_of_mem hy
                obtain ⟨cs',h1,h2,_⟩:=hrow i y (by rw [List.getElem?_eq_getElem hi,hiy])
                exact h2.1.trans h1
              have hfl:((elems.map (·.1)).map (g7 P n e)).flatten.length=len * P.cellsOf e:=by
                have:∀ (rows:List (List AV)),(∀ r∈rows,r.length=P.cellsOf e)→rows.flatten.length=rows.length * P.cellsOf e:=by
                  intro rows
                  induction rows with
                  | nil=>intro _; simp
                  | cons r rs ih=>intro hr; rw [List.flatten_cons,List.length_append,ih (fun r h=>hr r (List.mem_cons_of_mem _ h)),hr r List.mem_cons_self,List.length_cons,Nat.succ_mul]; omega
                rw [this _ hrl]
                simp [hl1]
              have hcell:∀ m,m<len * P.cellsOf e→∃ u,dO w.heap b (off + m)=some u:=by
                intro m hm
                have hi:m / P.cellsOf e<len:=(Nat.div_lt_iff_lt_mul hsz).2 hm
                have hj:m % P.cellsOf e<P.cellsOf e:=Nat.mod_lt _ hsz
                obtain ⟨y,hy⟩:∃ y,elems[m / P.cellsOf e]?=some y:=⟨elems[m / P.cellsOf e]'(by omega),List.getElem?_eq_getElem (by omega)⟩
                obtain ⟨cs',h1,h2,h3⟩:=hrow _ y hy
                have h4:=h3 _ hj
                have hv:cs'[m % P.cellsOf e]?=some (cs'[m % P.cellsOf e]'(by omega)):=List.getElem?_eq_getElem (by omega)
                rw [hv,hadd] at h4
                have hadd2:∀ x y,(⟨b,x,none⟩:Addr).add y=⟨b,x + y,none⟩:=fun x y=>by unfold Addr.add; split <;> simp_all
                rw [hadd2] at h4
                obtain ⟨_,_,h5⟩:=qb h4
                have ee:off + m / P.cellsOf e * P.cellsOf e + m % P.cellsOf e=off + m:=by
                  have:=Nat.div_add_mod m (P.cellsOf e)
                  rw [Nat.mul_comm] at this
                  omega
                simp only [ee] at h5
                exact ⟨_,h5⟩
              have hus:=VR.sl (E:=t6 w) (rows:=(elems.map (·.1)).map (g7 P n e)) (sz:=P.cellsOf e) (b:=b) (o:=off) (cap:=cap)
                ((List.range (len * P.cellsOf e)).map fun m=>(dO w.heap b (off + m)).getD undef) hsz hrl (by rw [hfl]; simp) (fun m c u h1 h2=>?_) hblk (fun m u hu'=>?_) (by simp; omega)
              · have e1:((elems.map (·.1)).map (g7 P n e)).length=len' + 1:=by simp; omega
                rw [e1] at hus
                exact hus
              · rw [Gk]
                obtain ⟨r,h3,h4⟩:=vP hsz hrl h1
                rw [List.getElem?_map,List.getElem?_map,Option.map_eq_some_iff] at h3
                obtain ⟨x,h3,rfl⟩:=h3
                rw [Option.map_eq_some_iff] at h3
                obtain ⟨y,hy,rfl⟩:=h3
                obtain ⟨cs',h5,h6,h7⟩:=hrow _ y hy
                obtain ⟨u',hu1,hu2⟩:=h6.get h4
                have hj:m % P.cellsOf e<P.cellsOf e:=Nat.mod_lt _ hsz
                have h8:=h7 _ hj
                have hadd2:∀ x y,(⟨b,x,none⟩:Addr).add y=⟨b,x + y,none⟩:=fun x y=>by unfold Addr.add; split <;> simp_all
                rw [hu1,hadd,hadd2] at h8
                obtain ⟨_,_,h9⟩:=qb h8
                have ee:off + m / P.cellsOf e * P.cellsOf e + m % P.cellsOf e=off + m:=by
                  have:=Nat.div_add_mod m (P.cellsOf e)
                  rw [Nat.mul_comm] at this
                  omega
                simp only [ee] at h9
                have hm:m<len * P.cellsOf e:=by rw [← hfl]; exact (List.getElem?_eq_some_iff.1 h1).1
                rw [List.getElem?_map,List.getElem?_range hm] at h2
                simp only [Option.map_some,h9,Option.getD_some,Option.some.injEq] at h2
                subst h2
                exact hu2
              · have hm:m<len * P.cellsOf e:=by
                  have:=(List.getElem?_eq_some_iff.1 hu').1
                  simpa using this
                rw [List.getElem?_map,List.getElem?_range hm] at hu'
                obtain ⟨u',h5⟩:=hcell m hm
                simp only [Option.map_some,h5,Option.getD_some,Option.some.injEq] at hu'
                subst hu'
                exact h5
        · cases h
    · rename_i fs hu
      simp only [Bool.and_eq_true] at hg
      rw [hu] at h
      split at h <;> first | (simp_all; done) | skip
      rename_i fs0 e1
      cases e1
      rw [if_pos hlen] at h
      simp only [Option.map_eq_some_iff,Prod.mk.injEq] at h
      obtain ⟨xs,hx,rfl,_⟩:=h
      have hsum:=Nat.eq_of_beq_eq_true hg.1.2
      obtain ⟨h1,h2⟩:=x8 (n:=n) (base:=base) (fuel:=fuel) (fun hg hl ht=>ul n hg hl ht) fs.toList 0 _ xs hg.1.1 (by omega) hg.2 hx
      obtain ⟨hl1,_⟩:=vN hx
      refine ⟨?_,?_⟩
      · unfold dy
        rw [hu]
        simp only [Bool.and_eq_true]
        exact ⟨by simp at hl1; simp [hl1],h1⟩
      · unfold g7
        rw [hu]
        simpa using h2
    · cases hg
end
def tl {H:Type} (P:Program) (n:Nat) (t:TypeId) (d:DataW H):AV :=
  match P.underlying t with
  | some (.struct _)=>.agg (g7 P n t d)
  | _=>(g7 P n t d).headD .bad
def nT (P:Program) (t:TypeId):Bool :=
  match P.underlying t with
  | some (.struct _)=>true
  | _=>false
def Cw (P:Program) (n:Nat) (t:TypeId):Bool:=tk P n t&&(nT P t||Nat.beq (P.cellsOf t) 1)
section
variable {H:Type} {enc:TypeId×Value→H} {P:Program} {W W':World}
theorem Ht {n:Nat} {t:TypeId} {v:Value} {d:DataW H} {p:List MemPlace} {base:Nat} (hg:Cw P n t=true) (hv:Value.okWide P W .any base t v) (h:DataW.Trod enc P W 0 (fun _=>true) true t v d p) :
    dy P n t d=true∧VR (t6 W) (tl P n t d) v:=by
  unfold Cw at hg
  simp only [Bool.and_eq_true,Bool.or_eq_true] at hg
  obtain ⟨fuel,hf⟩:=h
  cases hs:nT P t with
  | true =>
    unfold nT at hs
    split at hs
    · rename_i fs hu
      unfold Value.okWide at hv
      rw [hu] at hv
      obtain ⟨cs,rfl,hsz,_⟩:=hv
      have hc:(Value.agg cs).cells.toList=cs.toList:=rfl
      rw [hc] at hf
      obtain ⟨h1,h2⟩:=ul (base:=0) n (ps:=p) hg.1 (by simpa using hsz) hf
      refine ⟨h1,?_⟩
      unfold tl
      rw [hu]
      exact h2.aggV
    · cases hs
  | false =>
    have hc1:P.cellsOf t=1:=by
      rcases hg.2 with h | h
      · rw [hs] at h; cases h
      · exact Nat.eq_of_beq_eq_true h
    have hone:v.cells.toList=[v]:=by
      have hns:∀ fs,P.underlying t≠some (.struct fs):=fun fs he=>by unfold nT at hs; rw [he] at hs; cases hs
      have hgt:=hg.1
      cases v with
      | agg cs =>
        exfalso
        cases n with
        | zero=>cases hgt
        | succ n =>
          unfold tk at hgt
          unfold Value.okWide at hv
          split at hgt
          · rename_i hu; rw [hu] at hv; simp [Cell.okWide,Cell.ok,hu] at hv
          · rename_i k hu; rw [hu] at hv; simp [Cell.okWide,Cell.ok,hu] at hv
          · rename_i hu; rw [hu] at hv; simp [Cell.okWide,Cell.ok,hu] at hv
          · rename_i e hu; rw [hu] at hv; simp [Cell.okWide,Cell.ok,hu] at hv
          · rename_i fs hu; exact hns fs hu
          · cases hgt
      | _=>rfl
    rw [hone] at hf
    obtain ⟨h1,h2⟩:=ul (base:=0) n (ps:=p) hg.1 (by rw [hc1]; rfl) hf
    refine ⟨h1,?_⟩
    have hav:tl P n t d=(g7 P n t d).headD .bad:=by
      unfold tl
      unfold nT at hs
      split at hs
      · cases hs
      · rfl
    rw [hav]
    cases he:g7 P n t d with
    | nil=>exact .bad _ _
    | cons c cs =>
      rw [he] at h2
      exact h2.2 0 c v rfl rfl
theorem Cx {n base:Nat}:∀ {ts:List TypeId} {vs:List Value} {ds:List (DataW H)} {p:List MemPlace},(ts.all (Cw P n))=true→(∀ (j:Nat) (t:TypeId) (v:Value),ts[j]?=some t→vs[j]?=some v→Value.okWide P W .any base t v) →
    DataW.TrodAll enc P W 0 (fun _=>true) true ts vs ds p→ds.length=ts.length∧((ts.zip ds).all fun x=>dy P n x.1 x.2)=true∧b7 (t6 W) ((ts.zip ds).map fun x=>tl P n x.1 x.2) vs
  | [],[],[],_,_,_,_=>⟨rfl,rfl,.nil _⟩
  | t::ts,v::vs,d::ds,_,hg,hv,h=>by
    obtain ⟨p,q,h1,h2,_⟩:=h
    simp only [List.all_cons,Bool.and_eq_true] at hg
    obtain ⟨h3,h4⟩:=Ht hg.1 (hv 0 t v rfl rfl) h1
    obtain ⟨h5,h6,h7⟩:=Cx hg.2 (fun j t v e1 e2=>hv (j + 1) t v (by simpa using e1) (by simpa using e2)) h2
    exact ⟨by simp [h5],by simp [h3,h6],.cons h4 h7⟩
  | [],[],_::_,_,_,_,h=>by cases h
  | [],_::_,_,_,_,_,h=>by cases h
  | _::_,[],_,_,_,_,h=>by cases h
  | _::_,_::_,[],_,_,_,h=>by cases h
theorem x9 {sp:Nat→Bool} (hl:laidOutB P=true):∀ {ts:List TypeId} {vs:List Value} {ds:List (DataW H)} {p:List MemPlace},(ts.all fun t=>P.readableRec t&&decide (t<P.types.size))=true →
    DataW.TrodAll enc P W 0 (fun _=>true) true ts vs ds p→Below W.heap.size W W'→(∀ x∈p,x.block<W.heap.size)→(∀ x∈p,sp x.block=true)→DataW.TrodAll enc P W' 0 sp true ts vs ds p
  | [],[],[],_,_,h,_,_,_=>h
  | t::ts,v::vs,d::ds,_,hg,h,hb,hlt,hsp=>by
    obtain ⟨p,q,h1,h2,rfl⟩:=h
    simp only [List.all_cons,Bool.and_eq_true,decide_eq_true_eq] at hg
    refine ⟨p,q,Go.WideElems.Trod_stays hl hg.1.1 hg.1.2 h1 (fun x hx=>hb.same (hlt x (List.mem_append.2 (.inl hx)))) (fun x hx=>hsp x (List.mem_append.2 (.inl hx))),?_,rfl⟩
    exact x9 hl hg.2 h2 hb (fun x hx=>hlt x (List.mem_append.2 (.inr hx))) (fun x hx=>hsp x (List.mem_append.2 (.inr hx)))
  | [],[],_::_,_,_,h,_,_,_=>by cases h
  | [],_::_,_,_,_,h,_,_,_=>by cases h
  | _::_,[],_,_,_,h,_,_,_=>by cases h
  | _::_,_::_,[],_,_,h,_,_,_=>by cases h
end
end A
end Go.Proofs.Ytaiokpalfdbnnaa
