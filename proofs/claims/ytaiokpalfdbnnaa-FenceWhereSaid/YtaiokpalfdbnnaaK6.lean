/- Orders that are open; contracts; arguments read as data. Nothing is claimed here of the program. -/
import Derived.Test.YtaiokpalfdbnnaaK5
import Derived.Still
import Derived.WalkKit
import Derived.ProofKit
import Derived.OpenShut
import Derived.LoopNIn
import Derived.DataReads
import Derived.Carry
import Derived.WideKeyArgs
namespace Go.Proofs.Ytaiokpalfdbnnaa
namespace A
open Go
theorem kU:∀ {xs:List (Nat×TypeId)} {S:St} {X:Prop},jt xs S X→X∧∀ X',X'→jt xs S X'
  | [],_,_,h=>⟨h,fun _ h=>h⟩
  | (d,e)::xs,S,X,h=>by
    obtain ⟨a,h1,h2⟩:=b4.1 h
    split at h2
    · rename_i d' i j
      obtain ⟨hb,h2⟩:=ac h2
      obtain ⟨h3,h4⟩:=kU h2
      refine ⟨h3,fun X' h=>b4.2 ⟨_,h1,?_⟩⟩
      exact ak hb (h4 X' h)
    · exact False.elim h2
theorem fa {C:Ctx} (hC:fK C) {pl:bG} {ai:Array Oper} {i:Nat} {S:St}:aw (vP C pl ai i S):=by
  show aw (fun K:St→Prop=>vP C pl ai i S K)
  unfold vP
  split
  · exact aw.failN
  · exact C4 hC
theorem B1 {S2 S1:St} {X:(St→Prop)→Prop} (h:aw X):aw (fun K=>rc S2 S1 (X K)):=by
  unfold rc
  split
  · exact h
  · exact fun K hk=>by
      obtain ⟨r,h1,h2⟩:=h K hk.2
      exact ⟨r,h1,fun K' hk'=>⟨hk.1,h2 K' hk'⟩⟩
theorem yH {go:Nat→(St→Prop)→Prop} (hg:∀ i,aw (go i)):∀ (is:List Nat) (S1:St),aw (fun K:St→Prop=>zL go is S1 (K S1))
  | [],S1=>aw.ret S1
  | i::is,S1=>by
    show aw (fun K:St→Prop=>go i fun S2=>rc S2 S1 (zL go is S1 (K S1)))
    exact aw.bind (hg i) (fun S2=>B1 (yH hg is S1))
theorem eN {C:Ctx} (hC:fK C) {pl:bG} {ai:Array Oper} {ws:List Nat}:∀ (n:Nat) (listed:Array Bool) (S:St),aw (iC C pl ai ws n listed S)
  | 0,listed,S=>by
    show aw (fun K:St→Prop=>iC C pl ai ws 0 listed S K)
    unfold iC
    split
    · exact aw.ret S
    · exact aw.failN
  | n + 1,listed,S=>by
    show aw (fun K:St→Prop=>iC C pl ai ws (n + 1) listed S K)
    unfold iC
    split
    · exact aw.ret S
    · split
      · exact aw.bind (fa hC) (fun S'=>eN hC n _ S')
      · refine aw.bind (fa hC) (fun S'=>aw.bind (eN hC n _ S') (fun S1=>?_))
        exact yH (fun i=>aw.bind (fa hC) (fun S'=>eN hC n _ S')) _ S1
theorem yI {C:Ctx} (hC:fK C) {pl:bG} {ai:Array Oper} {ws:List Nat}:∀ (n:Nat) (listed:Array Bool) (S:St),aw (rR C pl ai ws n listed S)
  | 0,listed,S=>eN (pl:=pl) (ws:=ws) hC 0 listed S
  | n + 1,listed,S=>by
    show aw (fun K:St→Prop=>rR C pl ai ws (n + 1) listed S K)
    unfold rR
    split
    · exact aw.bind (fa hC) (fun S'=>yI hC n _ S')
    · exact eN hC _ _ _
theorem tQ {C:Ctx} (hC:fK C) {pl:bG} {ai:Array Oper} {S:St}:aw (uW C pl ai S):=by
  show aw (fun K:St→Prop=>uW C pl ai S K)
  unfold uW
  refine aw.chk ?_
  split
  · exact eN hC _ _ _
  · exact yI hC _ _ _
theorem qO {C:Ctx} (hC:fK C) {pl:bG}:∀ (c:Code) {S:St},ar (fZ C pl c S):=by
  intro c
  induction c with
  | skip=>exact ar.ret Ex.nrm _
  | region id ai draw =>
    intro S
    cases draw with
    | false =>
      show ar (fun (K:Ex→St→Prop)=>qw C pl ai ai.toList S fun S'=>iU pl id S' fun S''=>K .nrm S'')
      exact aw.bind2 (jF hC _ _) (fun S'=>aw.bind2 na (fun S''=>ar.ret Ex.nrm S''))
    | true =>
      show ar (fun (K:Ex→St→Prop)=>bC (re pl ai) (uX C.P (cb ai.toList) S fun S1=>uW C pl ai S1 fun S'=>jt (cb ai.toList) S' (iU pl id S' fun S''=>K .nrm S'')))
      refine ar.chk (aw.bind2 tO (fun S1=>aw.bind2 (tQ hC) (fun S'=>?_)))
      intro K h
      obtain ⟨h1,h2⟩:=kU h
      obtain ⟨S'',h3,h4⟩:=na _ h1
      exact ⟨_,_,h3,fun K' hk=>h2 _ (h4 _ hk)⟩
  | seq x y ihx ihy =>
    intro S
    show ar (fun (K:Ex→St→Prop)=>fZ C pl x S fun e S'=>match e with
      | .nrm=>fZ C pl y S' K
      | .ex i=>K (.ex i) S'
      | .ret=>K .ret S')
    refine ar.bind2 ihx (fun e S'=>?_)
    cases e with
    | nrm=>exact ihy
    | ex i=>exact ar.ret _ _
    | ret=>exact ar.ret _ _
  | cond c x y ihx ihy =>
    intro S
    show ar (fun (K:Ex→St→Prop)=>l9 c S fun b S'=>match b with
      | true=>fZ C pl x S' K
      | false=>fZ C pl y S' K)
    refine ar.bind2 z5 (fun b S'=>?_)
    cases b with
    | true=>exact ihx
    | false=>exact ihy
  | block id c ih =>
    intro S
    show ar (fun (K:Ex→St→Prop)=>fZ C pl c S fun e S'=>match e with
      | .ex i=>match Nat.beq i id with | true=>K .nrm S' | false=>K (.ex i) S'
      | .nrm=>K .nrm S'
      | .ret=>K .ret S')
    refine ar.bind2 ih (fun e S'=>?_)
    cases e with
    | nrm=>exact ar.ret _ _
    | ret=>exact ar.ret _ _
    | ex i =>
      show ar (fun (K:Ex→St→Prop)=>match Nat.beq i id with | true=>K .nrm S' | false=>K (.ex i) S')
      split
      · exact ar.ret _ _
      · exact ar.ret _ _
  | loop c ih=>exact hC.loop _ _ _
  | exit id=>exact ar.ret (Ex.ex id) _
  | ret=>exact ar.ret Ex.ret _
  | _=>exact fun K h=>False.elim h
theorem tU {P:Program} {S:St}:∀ {rs:List ResultVar},aw (uY P S rs)
  | []=>aw.ret _
  | .tmp t::rs=>by
    show aw (fun K=>oc S.t t fun a=>uY P S rs fun as=>K (a::as))
    exact aw.bind f6 (fun a=>aw.bind tU (fun as=>aw.ret (a::as)))
  | .cell c t::rs=>by
    show aw (fun K=>oc S.t c fun p=>CE S p fun row j=>gH P t row j fun x=>uY P S rs fun as=>K (x::as))
    exact aw.bind f6 (fun a=>ar.bind si (fun row j=>aw.bind cI (fun x=>aw.bind tU (fun as=>aw.ret (x::as)))))
theorem C5 {as:List AV}:aw (x8 as):=by
  unfold x8
  split <;> exact aw.ret _
theorem wd {C:Ctx} (hC:fK C) {f:Nat} {args:List AV} {o:List Ob}:ar (rf C f args o):=by
  show ar (fun K:AV→St→Prop=>rf C f args o K)
  have e:(fun K:AV→St→Prop=>rf C f args o K)=fun K=>sT C f args o K:=by funext K; exact propext wb
  rw [e]
  unfold sT
  split
  · rename_i fn _
    have resDet:∀ {S:St},ar (fun K:AV→St→Prop=>uY C.P S fn.results.toList fun rs=>x8 rs fun r=>K r S):=fun {S}=>aw.bind2 tU (fun rs=>aw.bind2 C5 (fun r=>ar.ret r S))
    split
    · have e2:∀ (p:bG) (k:bG→(AV→St→Prop)→Prop),(fun K=>zM p fun pl=>k pl K)=fun K=>k p K:=fun p k=>by funext K; exact propext tr
      rw [e2]
      refine ar.bind2 (qO hC _) (fun e S=>?_)
      cases e with
      | ex i=>exact ar.failN
      | nrm=>exact resDet
      | ret=>exact resDet
    · exact ar.failN
  · exact ar.failN
theorem qP {C:Ctx} (hC:fK C) {f:Nat} {args:List AV}:aw (po C f args):=ar.bind (wd hC) (fun _ _=>jD)
theorem tV {C:Ctx} (hC:fK C) {f:Nat} {args:List AV} {o:List Ob}:ar (qy C f args o):=by
  show ar (fun (K:AV→List Ob→Prop)=>rf C f args o fun r S=>bC (rP 4 r&&Nat.beq S.b o.length) (K r S.o))
  exact ar.bind2 (wd hC) (fun _ _=>ar.chk (ar.ret _ _))
structure GI (cfg:nt):Prop where
  sound:∀ f args o K,cfg.xc f args o K→nK cfg.P f args o K
  det:∀ f args o,ar (cfg.xc f args o)
  pure:∀ f args r,cfg.xq f args=some r→zS cfg.P f args r
theorem GI.none {cfg:nt} (h:cfg.xc=fun _ _ _ _=>False) (hq:cfg.xq=fun _ _=>none):GI cfg:=⟨fun f args o K hk=>(by rw [h] at hk; exact hk.elim),fun f args o=>(by rw [h]; exact ar.failN (n:=0)),fun f args r e=>(by rw [hq] at e; cases e)⟩
theorem kV {cfg:nt} (hX:GI cfg):∀ n,fK (fH cfg n)
  | 0=>⟨fun _ _=>aw.failN (n:=123),fun _ _ _=>ar.failN (n:=124),fun _ _ _=>ar.failN (n:=125)⟩
  | n + 1=>⟨fun f args=>by
      show aw fun K=>match cfg.xq f args with | some r=>K r | none=>po (fH cfg n) f args K
      cases cfg.xq f args with
      | some r=>exact aw.ret r
      | none=>exact qP (kV hX n),fun f args o=>by
      show ar fun K=>match cfg.xs f with | true=>cfg.xc f args o K | false=>qy (fH cfg n) f args o K
      cases cfg.xs f with
      | true=>exact hX.det _ _ _
      | false=>exact tV (kV hX n),fun pl c S=>by
      have e0:(fun (K:Ex→St→Prop)=>sS (fH cfg n) fun C=>fZ C pl c S fun e S'=>match e with
        | .nrm=>C.loop pl c S' K
        | .ex i=>K (.ex i) S'
        | .ret=>K .ret S')=fun K=>fZ (fH cfg n) pl c S fun e S'=>match e with
        | .nrm=>(fH cfg n).loop pl c S' K
        | .ex i=>K (.ex i) S'
        | .ret=>K .ret S':=by funext K; exact propext oK
      show ar (fun (K:Ex→St→Prop)=>sS (fH cfg n) fun C=>fZ C pl c S fun e S'=>match e with
        | .nrm=>C.loop pl c S' K
        | .ex i=>K (.ex i) S'
        | .ret=>K .ret S')
      rw [e0]
      refine ar.bind2 (qO (kV hX n) c) (fun e S'=>?_)
      cases e with
      | nrm=>exact (kV hX n).loop _ _ _
      | ex i=>exact ar.ret _ _
      | ret=>exact ar.ret _ _⟩
theorem tY {cfg:nt} (hX:GI cfg) (n:Nat):tu (fH cfg n):=fun f args K h=>by
  obtain ⟨r,h1,h2⟩:=qP (kV hX n) K h
  exact ⟨r,h1,h2 _ rfl⟩
def gV (S:St) (dst:Option Tmp) (v:AV) (m:Option St):St :=
  ju (match m with | none=>S | some M=>eK S M) dst v
def iW (S S2:St):Prop:=S2.l=S.l∧S2.o=S.o∧S2.b=S.b
theorem iW.refl (S:St):iW S S:=⟨rfl,rfl,rfl⟩
theorem iW.symm {S S2:St} (h:iW S S2):iW S2 S:=⟨h.1.symm,h.2.1.symm,h.2.2.symm⟩
theorem iW.trans {S S2 S3:St} (h:iW S S2) (k:iW S2 S3):iW S S3:=⟨k.1.trans h.1,k.2.1.trans h.2.1,k.2.2.trans h.2.2⟩
def mI (xs:List Operand) (S S2:St):Prop:=∀ d,Operand.tmp d∈xs→S2.t[d]?=S.t[d]?
theorem z7 {S S2:St} {x:Operand} {k:AV→Prop} (h:cv S x k) (ha:∀ d,x=.tmp d→S2.t[d]?=S.t[d]?):cv S2 x k:=by
  unfold cv at *
  split at h
  · rename_i d
    obtain ⟨c,hc,hk⟩:=b4.1 h
    exact b4.2 ⟨c,by rw [ha d rfl]; exact hc,hk⟩
  · exact h
  · exact h
  · exact h
theorem gq {S S2:St}:∀ {xs:List Operand} {k:List AV→Prop},cV S xs k→mI xs S S2→cV S2 xs k
  | [],_,h,_=>h
  | x::xs,k,h,ha=>by
    obtain ⟨c,h1,h2⟩:=b5 _ h
    have hx:cv S2 x fun a=>cV S2 xs fun as=>k (a::as):=by
      refine z7 (S:=S) (h2 _ ?_) (fun d e=>ha d (by rw [← e]; exact List.mem_cons_self))
      exact gq h1 (fun d hd=>ha d (List.mem_cons_of_mem _ hd))
    exact hx
def Looks (site:Option Nat) (S S2:St):Prop :=
  match site with
  | some r=>aJ S2.l r=aJ S.l r
  | none=>S2.o=S.o
def pQ (site:Option Nat) (S M:St):Prop :=
  match site with
  | some r'=>M.o=S.o∧∀ r,r≠r'→aJ M.l r=aJ S.l r
  | none=>M.l=S.l
theorem Looks.of {site:Option Nat} {S S2:St} (h:iW S S2):Looks site S S2:=by
  cases site with
  | some r=>show aJ S2.l r=_; rw [h.1]
  | none=>exact h.2.1
theorem Looks.symm {site:Option Nat} {S S2:St} (h:Looks site S S2):Looks site S2 S:=by
  cases site with
  | some r=>exact Eq.symm h
  | none=>exact Eq.symm h
theorem Looks.trans {site:Option Nat} {S S2 S3:St} (h:Looks site S S2) (k:Looks site S2 S3):Looks site S S3:=by
  cases site with
  | some r=>exact Eq.trans k h
  | none=>exact Eq.trans k h
def rX (pl:bG) (ai:Array Oper) (o:Oper) (S S2:St):Prop :=
  (eY pl o=1→Looks (eZ pl ai o) S S2)∧(eY pl o=2→iW S S2)
theorem rX.of {pl:bG} {ai:Array Oper} {o:Oper} {S S2:St} (h:iW S S2):rX pl ai o S S2:=⟨fun _=>.of h,fun _=>h⟩
def rY (pl:bG) (ai:Array Oper) (o:Oper) (S:St) (m:Option St):Prop :=
  (eY pl o≠2→m=none)∧∀ M,m=some M→pQ (eZ pl ai o) S M
def HO (C:Ctx) (pl:bG) (ai:Array Oper) (o:Oper) (S:St) (v:AV) (m:Option St):Prop :=
  rY pl ai o S m∧∀ S2,mI o.op.operands.toList S S2→rX pl ai o S S2→∀ K2:St→Prop,K2 (gV S2 o.dst v m)→ol C pl ai o S2 K2
theorem yJ {S S2:St} (h:iW S S2):cy S2=cy S:=by
  unfold cy
  rw [h.1,h.2.1,h.2.2]
theorem z8 {o:Oper} {t:Nat} (h:addrOf o=some t):Operand.tmp t∈o.op.operands.toList:=by
  unfold addrOf at h
  split at h
  · rename_i ty x ho
    cases h
    rw [ho]
    simp [Op.operands]
  · rename_i ty x y ho
    cases h
    rw [ho]
    simp [Op.operands]
  · cases h
theorem xu {pl:bG} {ai:Array Oper} {o:Oper} {S S2:St} (ha:mI o.op.operands.toList S S2):g9 pl ai o S2=g9 pl ai o S:=by
  unfold g9
  cases ht:addrOf o with
  | none=>rfl
  | some t =>
    dsimp only
    rw [ha t (z8 ht)]
theorem oQ {pl:bG} {ai:Array Oper} {o:Oper} {S:St} {t:Nat} (h:g9 pl ai o S=true) (ht:addrOf o=some t):∃ c,S.t[t]?=some c∧mh c (eZ pl ai o)=true:=by
  unfold g9 at h
  rw [ht] at h
  dsimp only at h
  split at h
  · rename_i c hc
    exact ⟨c,hc,h⟩
  · cases h
theorem mJ {c:AV} {r:Nat} (h:mh c (some r)=true):∃ i j,c=.ptr (.L r) i j:=by
  unfold mh at h
  split at h
  · rename_i d i j r' hr
    cases hr
    have:=Nat.eq_of_beq_eq_true h
    subst this
    exact ⟨i,j,rfl⟩
  · rename_i hr; cases hr
  · rename_i hr; cases hr
  · cases h
theorem rD {c:AV} (h:mh c none=true):(∃ id i j,c=.ptr (.O id) i j)∨∃ row j,c=.fptr row j:=by
  unfold mh at h
  split at h
  · rename_i hr; cases hr
  · rename_i id i j _; exact .inl ⟨id,i,j,rfl⟩
  · rename_i row j _; exact .inr ⟨row,j,rfl⟩
  · cases h
theorem C6 {C:Ctx} {o:Oper} {ty:TypeId} {x:Operand} (ho:o.op=.load ty x) {r i j:Nat} {M M2:St} (h:aJ M2.l r=aJ M.l r) {k:AV→Prop} (hk:nr C o [.ptr (.L r) i j] M k):nr C o [.ptr (.L r) i j] M2 k:=by
  unfold nr at hk ⊢
  rw [ho] at hk ⊢
  unfold CE uV at hk ⊢
  dsimp only at hk ⊢
  rw [h]
  exact hk
theorem wh {C:Ctx} {o:Oper} {ty:TypeId} {x:Operand} (ho:o.op=.load ty x) {c:AV} (hc:mh c none=true) {M M2:St} (h:M2.o=M.o) {k:AV→Prop} (hk:nr C o [c] M k):nr C o [c] M2 k:=by
  unfold nr at hk ⊢
  rw [ho] at hk ⊢
  rcases rD hc with ⟨id,i,j,rfl⟩ | ⟨row,j,rfl⟩
  · unfold CE uV at hk ⊢
    dsimp only at hk ⊢
    rw [h]
    exact hk
  · exact hk
theorem ED {size:Nat} {x:AV} {S S2:St} (h:S2.o=S.o) {k:Bool→List (List AV)→Prop}:iA size S x k→iA size S2 x k:=by
  obtain ⟨t,l,oo,b⟩:=S
  obtain ⟨t2,l2,oo2,b2⟩:=S2
  have h':oo2=oo:=h
  subst h'
  unfold iA
  split <;> exact fun h=>h
theorem yK {P:Program} {src dst:TypeId} {x:AV} {S S2:St} (h:S2.o=S.o) {k:AV→Prop}:eV P src dst x S k→eV P src dst x S2 k:=by
  unfold eV
  split
  · split
    · intro hk
      obtain ⟨h1,h2⟩:=ac hk
      exact ak h1 (ED h h2)
    · exact fun h=>h
  · exact fun h=>h
theorem GX {C:Ctx} {o:Oper} (ho:∀ ty x,o.op≠.load ty x) {vs:List AV} {M M2:St} (h:M2.o=M.o) {k:AV→Prop}:nr C o vs M k→nr C o vs M2 k:=by
  obtain ⟨t,l,oo,b⟩:=M
  obtain ⟨t2,l2,oo2,b2⟩:=M2
  have h':oo2=oo:=h
  subst h'
  unfold nr
  split
  all_goals first
    | exact fun h=>h
    | exact yK rfl
    | (exfalso; rename_i h1; exact ho _ _ h1)
    | (exfalso; rename_i h1 _; exact ho _ _ h1)
theorem t6 {S:St} {g:Nat} {xs:List Operand} {k:List AV→Prop} (h:cV S (.global g::xs) k):∃ row,cV S xs fun as=>k (.fptr row 0::as):=by
  have h':cv S (.global g) fun a=>cV S xs fun as=>k (a::as):=h
  cases hg:FN g with
  | none=>simp only [cv,hg] at h'; exact False.elim h'
  | some row=>simp only [cv,hg] at h'; exact ⟨row,h'⟩
theorem wi {S:St} {t:Nat} {k:List AV→Prop} {a:AV} (ha:S.t[t]?=some a) (h:cV S [.tmp t] k):k [a]:=by
  obtain ⟨c,hc,h⟩:=b4.1 h
  rw [ha] at hc
  cases hc
  exact h
theorem wj {S:St} {t:Nat} {y:Operand} {k:List AV→Prop} {a:AV} (ha:S.t[t]?=some a) (h:cV S [.tmp t,y] k):∃ b,k [a,b]:=by
  obtain ⟨c,hc,h⟩:=b4.1 h
  rw [ha] at hc
  cases hc
  obtain ⟨b,h1,_⟩:=b5 _ h
  exact ⟨b,h1⟩
theorem C7 {C:Ctx} {o:Oper} {c:AV} {site:Option Nat} {y:AV} {M:St} {k:AV→St→Prop} (hs:mh c site=true) (h:vN C o [c,y] M k):vN C o [c,y] M fun v M'=>k v M'∧pQ site M M':=by
  obtain ⟨v,M',h1,h2⟩:=j6 _ h
  refine h2 _ ⟨h1,?_⟩
  have h3:=h2 (fun _ M''=>M''=M') rfl
  unfold vN at h3
  split at h3
  · rename_i ty X Y p z ho e
    cases e
    obtain ⟨cs,h4,_⟩:=bW _ h3
    split at h4
    · obtain ⟨_,h4⟩:=ac h4
      cases site with
      | some r' =>
        obtain ⟨i,j,rfl⟩:=mJ hs
        unfold ki at h4
        dsimp only at h4
        split at h4
        · rename_i row hrow
          split at h4
          · obtain ⟨_,h4⟩:=ac h4
            rw [da,gL] at h4
            subst h4
            refine ⟨rfl,fun r hr=>?_⟩
            show aJ (pi M.l r' _) r=_
            rw [h_ hrow,if_neg (fun e=>hr e.symm)]
          · exact False.elim h4
        · exact False.elim h4
      | none =>
        rcases rD hs with ⟨id,i,j,rfl⟩ | ⟨row,j,rfl⟩
        · unfold ki at h4
          dsimp only at h4
          split at h4
          · split at h4
            · obtain ⟨_,h4⟩:=ac h4
              rw [da,ax] at h4
              subst h4
              rfl
            · exact False.elim h4
          · exact False.elim h4
        · exact False.elim h4
    · exact False.elim h4
  · exact False.elim h3
theorem t7 {P:Program} {t:TypeId} {l c:AV} {M:St} {k:St→AV→Prop} (h:bT P t l c M k):bT P t l c M fun M' r=>k M' r∧M'.l=M.l:=by
  obtain ⟨M',r,h1,h2⟩:=fu _ h
  refine h2 _ ⟨h1,?_⟩
  have h3:=h2 (fun M'' _=>M''=M') rfl
  unfold bT at h3
  split at h3
  · split at h3
    · obtain ⟨n,h4,_⟩:=aZ _ h3
      obtain ⟨m,h5,_⟩:=aZ _ h4
      obtain ⟨_,h5⟩:=ac h5
      obtain ⟨z,h6,_⟩:=aM _ h5
      obtain ⟨_,h6⟩:=ac h6
      rw [ax] at h6
      rw [← h6]
    · exact False.elim h3
  · exact False.elim h3
theorem t8 {M:St} {pk:Bool} {id i:Nat} {k:AV→St→Prop} (h:eL M pk id i k) (hk:∀ v M',M'.l=M.l→k v M'→False):False:=by
  unfold eL at h
  split at h
  · split at h
    · exact hk _ _ (by rfl) h
    · split at h
      · exact hk _ _ (by rfl) h
      · rw [bU,ax] at h
        exact hk _ _ (by rfl) h
    · exact h
  · exact h
theorem z9 {P:Program} {t:TypeId} {same pk:Bool} {M:St} {id i:Nat} {k:AV→St→Prop} (h:gJ P t same pk M id i k) (hk:∀ v M',M'.l=M.l→k v M'→False):False:=by
  unfold gJ at h
  split at h
  · split at h
    · obtain ⟨_,h⟩:=ac h
      obtain ⟨r,h,_⟩:=cI _ h
      exact hk _ _ (by rfl) h
    · exact h
  · refine t8 h (fun v M' e h=>?_)
    obtain ⟨r,h,_⟩:=cI _ h
    exact hk _ _ e h
theorem yL {P:Program} {t:TypeId} {M:St} {id i:Nat} {v:AV} {K:St→Prop} (h:fF P t M id i v K) (hk:∀ M',M'.l=M.l→K M'→False):False:=by
  unfold fF at h
  split at h
  · obtain ⟨_,h⟩:=ac h
    rw [ax] at h
    exact hk _ (by rfl) h
  · exact h
theorem z_ {P:Program} {t:TypeId} {nw:Bool} {j:Nat} {l c:AV} {M:St} {k:AV→St→Prop} (h:fY P nw j t l c M k) (hk:∀ v M',M'.l=M.l→k v M'→False):False:=by
  unfold fY at h
  split at h
  · split at h
    · split at h
      · obtain ⟨n,h,_⟩:=aZ _ h
        obtain ⟨m,h,_⟩:=aZ _ h
        obtain ⟨_,h⟩:=ac h
        obtain ⟨z,h,_⟩:=aM _ h
        split at h
        · obtain ⟨_,h,_⟩:=lB _ h
          exact hk _ _ (by rfl) h
        · exact h
      · exact h
    · exact h
  · exact h
theorem ve {P:Program} {t:TypeId} {M:St} {k:AV→St→Prop} (h:fq P t M k) (hk:∀ v M',M'.l=M.l→k v M'→False):False:=by
  unfold fq at h
  split at h
  · split at h
    · split at h
      · obtain ⟨_,h⟩:=ac h
        rw [ax] at h
        exact hk _ _ (by rfl) h
      · exact h
    · exact h
  · exact h
theorem Aa {P:Program} {t:TypeId} {m key:AV} {ok:Bool} {M:St} {k:AV→St→Prop} (h:gK P t m key ok M k) (hk:∀ v M',M'.l=M.l→k v M'→False):False:=by
  unfold gK at h
  split at h
  · split at h
    · split at h
      · obtain ⟨x,r,h,_⟩:=cK _ h
        split at h
        · refine t8 h (fun v M' e h=>?_)
          obtain ⟨r,h,_⟩:=eX _ h
          exact hk _ _ e h
        · obtain ⟨r,h,_⟩:=d4 _ h
          exact hk _ _ (by rfl) h
      · exact h
    · exact h
  · exact h
theorem wl {P:Program} {t:TypeId} {m key x:AV} {M:St} {K:St→Prop} (h:io P t m key x M K) (hk:∀ M',M'.l=M.l→K M'→False):False:=by
  unfold io at h
  split at h
  · split at h
    · split at h
      · obtain ⟨_,h⟩:=ac h
        obtain ⟨x,r,h,_⟩:=cK _ h
        obtain ⟨_,h⟩:=ac h
        split at h
        · obtain ⟨_,h⟩:=ac h
          rw [ax] at h
          exact hk _ (by rfl) h
        · split at h
          · rw [ax] at h
            exact hk _ (by rfl) h
          · exact h
      · exact h
    · exact h
  · exact h
theorem yM {M:St} {x:AV} {X:Nat→Nat→Prop} (h:g8 M x X) (hk:∀ id i,X id i→False):False:=by
  unfold g8 at h
  split at h
  · split at h
    · exact hk _ _ h
    · exact h
  · exact h
theorem FY {P:Program} {pl:bG} {o:Oper} {vs:List AV} {M:St} {k:AV→St→Prop} (h:jV P pl o vs M k) (hk:∀ v M',M'.l=M.l→k v M'→False):False:=by
  unfold jV at h
  split at h
  · exact yM h (fun _ _ h=>z9 h hk)
  · exact yM h (fun _ _ h=>yL h (fun M' e h=>hk _ _ e h))
  · exact z_ h hk
  · exact ve h hk
  · exact Aa h hk
  · exact wl h (fun M' e h=>hk _ _ e h)
  · exact wl h (fun M' e h=>hk _ _ e h)
  · exact h
theorem B2 {P:Program} {pl:bG} {o:Oper} {vs:List AV} {M:St} {k:AV→St→Prop} (h:jV P pl o vs M k):jV P pl o vs M fun v M'=>k v M'∧M'.l=M.l:=by
  obtain ⟨v,M',h1,h2⟩:=tJ _ h
  refine h2 _ ⟨h1,?_⟩
  by_cases e:M'.l=M.l
  · exact e
  · exact (FY (h2 (fun _ M''=>M''.l≠M.l) e) (fun _ _ e h=>h e)).elim
theorem C8 {P:Program} {pl:bG} {o:Oper} {x:AV} {vs:List AV} {M:St} {k:AV→St→Prop} (h:jV P pl o (x::vs) M k) (ht:(addrOf o).isSome=true):∀ d i j,x≠.ptr (.L d) i j:=by
  intro d i j e
  subst e
  unfold jV at h
  unfold addrOf at ht
  split at h
  · rename_i he
    cases he
    exact h
  · rename_i he
    cases he
    exact h
  · rename_i ho _
    rw [ho] at ht
    cases ht
  · rename_i he
    cases he
  · rename_i ho _
    rw [ho] at ht
    cases ht
  · rename_i ho _
    rw [ho] at ht
    cases ht
  · rename_i ho _
    rw [ho] at ht
    cases ht
  · exact h
def wm (pl:bG) (o:Oper):Prop:=((∃ t X Y,o.op=.makeSlice t X Y)∨∃ c,o.op=.call c)∨fp pl o=true
theorem wn {pl:bG} {o:Oper} (h:¬ wm pl o):fp pl o=false:=by
  cases e:fp pl o with
  | false=>rfl
  | true=>exact absurd (.inr e) h
theorem wo {pl:bG} {o:Oper} (h:eY pl o≠2):fp pl o=false:=by
  cases e:fp pl o with
  | false=>rfl
  | true=>exact absurd (by unfold eY; rw [e]) h
theorem oR {C:Ctx} {pl:bG} {o:Oper} {vs:List AV} {M:St} {k:AV→St→Prop} (h:¬ wm pl o):li C pl o vs M k=vN C o vs M k:=by
  unfold li
  rw [wn h]
  dsimp only
  unfold j1
  split
  · rename_i t X Y l c ho
    exact absurd (.inl (.inl ⟨t,X,Y,ho⟩)) h
  · rename_i c _ _ _ _ ho
    exact absurd (.inl (.inr ⟨c,ho⟩)) h
  · rfl
theorem B3 {C:Ctx} (hC:fK C) {pl:bG} {o:Oper} {vs:List AV} {M:St} {k:AV→St→Prop} (hm:wm pl o) (h:li C pl o vs M k):li C pl o vs M fun v M'=>k v M'∧M'.l=M.l:=by
  unfold li at h ⊢
  cases e:fp pl o with
  | true =>
    rw [e] at h
    exact B2 h
  | false =>
    rw [e] at h
    have hm:(∃ t X Y,o.op=.makeSlice t X Y)∨∃ c,o.op=.call c:=by
      rcases hm with hm | hm
      · exact hm
      · rw [e] at hm; cases hm
    dsimp only at h ⊢
    unfold j1 at h ⊢
    split at h
    · rename_i t' X' Y' l c ho'
      exact t7 h
    · split at h
      · obtain ⟨h1,h⟩:=ac h
        refine ak h1 ?_
        obtain ⟨r,o',h2,h3⟩:=hC.scall _ _ _ _ h
        refine h3 _ ?_
        obtain ⟨h4,h5⟩:=ac h2
        exact ak h4 ⟨h5,rfl⟩
      · exact h.elim
    · exfalso
      unfold vN at h
      split at h
      · rename_i heq x1 x2
        rcases hm with ⟨t,X,Y,ho⟩ | ⟨c,ho⟩ <;> (rw [ho] at heq; cases heq)
      · exact h
theorem C9 {pl:bG} {o:Oper} {ty:TypeId} {x:Operand} (hw:fp pl o=false) (ho:o.op=.load ty x):eY pl o=1:=by
  unfold eY
  rw [hw]
  dsimp only
  unfold vO
  rw [ho]
  dsimp only
  unfold CM
  rw [ho]
theorem B4 {pl:bG} {o:Oper} {ty:TypeId} {x y:Operand} (hw:fp pl o=false) (ho:o.op=.store ty x y):eY pl o=2:=by
  unfold eY
  rw [hw]
  dsimp only
  unfold vO
  rw [ho]
  dsimp only
  unfold CM
  rw [ho]
theorem Ab {C:Ctx} {pl:bG} {ai:Array Oper} {o:Oper} {S:St} {vs:List AV} {k:AV→St→Prop} (hm:wm pl o) (hkey:g9 pl ai o S=true) (hget:cV S o.op.operands.toList (fun x=>x=vs)) (h:li C pl o vs (cy S) k):eZ pl ai o=none:=by
  cases ht:addrOf o with
  | none=>unfold eZ; rw [ht]
  | some t =>
    obtain ⟨c,hc1,hc2⟩:=oQ hkey ht
    cases hs:eZ pl ai o with
    | none=>rfl
    | some r =>
      exfalso
      rw [hs] at hc2
      obtain ⟨i,j,rfl⟩:=mJ hc2
      have hw:fp pl o=true:=by
        rcases hm with (⟨t',X,Y,ho⟩ | ⟨c,ho⟩) | hm
        · unfold addrOf at ht; rw [ho] at ht; cases ht
        · unfold addrOf at ht; rw [ho] at ht; cases ht
        · exact hm
      unfold li at h
      rw [hw] at h
      dsimp only at h
      have hx:∃ ys,vs=.ptr (.L r) i j::ys:=by
        unfold addrOf at ht
        split at ht
        · rename_i ty x ho
          cases ht
          have hop:o.op.operands.toList=[.tmp t]:=by rw [ho]; simp [Op.operands]
          rw [hop] at hget
          exact ⟨[],(wi hc1 hget).symm⟩
        · rename_i ty x y ho
          cases ht
          have hop:o.op.operands.toList=[.tmp t,y]:=by rw [ho]; simp [Op.operands]
          rw [hop] at hget
          obtain ⟨b,hb⟩:=wj hc1 hget
          exact ⟨[b],hb.symm⟩
        · cases ht
      obtain ⟨ys,rfl⟩:=hx
      exact C8 h (by rw [ht]; rfl) r i j rfl
theorem B5 {pl:bG} {o:Oper} {t:Nat} (h:addrOf o=some t) (hc:eY pl o=1):∃ ty,o.op=.load ty (.tmp t):=by
  unfold addrOf at h
  split at h
  · rename_i ty x ho
    cases h
    exact ⟨ty,ho⟩
  · rename_i ty x y ho
    rw [B4 (wo (by rw [hc]; decide)) ho] at hc
    cases hc
  · cases h
theorem Ac {pl:bG} {o:Oper} {t:Nat} (h:addrOf o=some t) (hw:fp pl o=false) (hc:eY pl o=2):∃ ty y,o.op=.store ty (.tmp t) y:=by
  unfold addrOf at h
  split at h
  · rename_i ty x ho
    rw [C9 hw ho] at hc
    cases hc
  · rename_i ty x y ho
    cases h
    exact ⟨ty,y,ho⟩
  · cases h
theorem AS {C:Ctx} (hC:fK C) {pl:bG} {ai:Array Oper} {o:Oper} {S:St} {K:St→Prop} (hez:zK (eY pl o)=true) (h:ol C pl ai o S K):∃ v m,HO C pl ai o S v m∧K (gV S o.dst v m):=by
  obtain ⟨hkey,h⟩:=ac h
  have fin:∀ {S2:St} {K2:St→Prop},mI o.op.operands.toList S S2→uU C pl o S2 K2→ol C pl ai o S2 K2:=fun ha h=>ak (by rw [xu ha]; exact hkey) h
  unfold uU at h
  split at h
  · rename_i hc
    obtain ⟨vs,h1,h2⟩:=aX _ h
    obtain ⟨r,h3,h4⟩:=sj _ h1
    rw [aE] at h3
    refine ⟨r,none,⟨⟨fun _=>rfl,fun M e=>by cases e⟩,fun S2 ha _ K2 hk=>fin ha ?_⟩,h3⟩
    unfold uU
    rw [hc]
    refine gq (S:=S) (h2 (fun vs=>pop C pl o vs fun r=>br o.dst r S2 K2) (h4 _ ?_)) ha
    rw [aE]
    exact hk
  · rename_i hc
    obtain ⟨vs,h1,h2⟩:=aX _ h
    obtain ⟨r,h3,h4⟩:=sk hC _ h1
    rw [aE] at h3
    refine ⟨r,none,⟨⟨fun _=>rfl,fun M e=>by cases e⟩,fun S2 ha hm K2 hk=>fin ha ?_⟩,h3⟩
    unfold uU
    rw [hc]
    have h5:=h4 (fun r=>br o.dst r S2 K2) (by rw [aE]; exact hk)
    have hm1:=hm.1 hc
    refine gq (S:=S) (h2 (fun vs=>nr C o vs (cy S2) fun r=>br o.dst r S2 K2) ?_) ha
    cases ht:addrOf o with
    | some t =>
      obtain ⟨c,hc1,hc2⟩:=oQ hkey ht
      obtain ⟨ty,ho⟩:=B5 ht hc
      have hop:o.op.operands.toList=[.tmp t]:=by rw [ho]; simp [Op.operands]
      have hvs:vs=[c]:=by
        have:=h2 (fun x=>x=vs) rfl
        rw [hop] at this
        exact (wi hc1 this).symm
      subst hvs
      cases hs:eZ pl ai o with
      | some r =>
        rw [hs] at hm1 hc2
        obtain ⟨i,j,rfl⟩:=mJ hc2
        exact C6 ho (M:=cy S) hm1 h5
      | none =>
        rw [hs] at hm1 hc2
        exact wh ho hc2 (M:=cy S) hm1 h5
    | none =>
      have hs:eZ pl ai o=none:=by unfold eZ; rw [ht]
      rw [hs] at hm1
      by_cases hl:∃ ty x,o.op=.load ty x
      · obtain ⟨ty,x,ho⟩:=hl
        have hop:o.op.operands.toList=[x]:=by rw [ho]; simp [Op.operands]
        by_cases hglob:∃ g,x=.global g
        · obtain ⟨g,rfl⟩:=hglob
          have hv:=h2 (fun x=>x=vs) rfl
          rw [hop] at hv
          obtain ⟨row,hv⟩:=t6 hv
          have hv':[AV.fptr row 0]=vs:=hv
          subst hv'
          exact wh ho rfl (M:=cy S) hm1 h5
        exfalso
        cases x with
        | tmp t=>unfold addrOf at ht; rw [ho] at ht; cases ht
        | const cc =>
          have hv:=h2 (fun x=>x=vs) rfl
          rw [hop] at hv
          have hv':vs=[BC cc]:=by
            have:g6 (BC cc) (fun a=>[a]=vs):=hv
            rw [bU] at this
            exact this.symm
          subst hv'
          have h6:=h1
          unfold nr at h6
          rw [ho] at h6
          have h7:CE (cy S) (BC cc) fun row j=>gH C.P ty row j fun r=>br o.dst r S K:=h6
          have hno:∀ c:Value,(∀ k i j,BC c≠.ptr k i j)∧∀ r j,BC c≠.fptr r j:=by
            intro c
            refine ⟨fun k i j=>?_,fun r j=>?_⟩ <;>
            · unfold BC
              split
              · intro h; cases h
              · unfold sH
                split <;> intro h <;> cases h
          unfold CE at h7
          split at h7
          · rename_i k i j he; exact (hno cc).1 _ _ _ he
          · rename_i r j he; exact (hno cc).2 _ _ he
          · exact h7
        | func f =>
          have hv:=h2 (fun x=>x=vs) rfl
          rw [hop] at hv
          have hv':[AV.fn f [] []]=vs:=hv
          subst hv'
          have h6:=h1
          unfold nr at h6
          rw [ho] at h6
          exact h6
        | global g=>exact hglob ⟨g,rfl⟩
      · exact GX (fun ty x he=>hl ⟨ty,x,he⟩) (M:=cy S) hm1 h5
  · rename_i hc
    obtain ⟨vs,h1,h2⟩:=aX _ h
    by_cases hmk:wm pl o
    · obtain ⟨r,M,⟨h3,h5⟩,h4⟩:=yF hC _ (B3 hC hmk h1)
      rw [aE] at h3
      refine ⟨r,some M,⟨⟨fun hn=>absurd hc hn,fun M' e=>?_⟩,fun S2 ha hm K2 hk=>fin ha ?_⟩,h3⟩
      · cases e
        rw [Ab hmk hkey (h2 (fun x=>x=vs) rfl) h1]
        exact h5
      · unfold uU
        rw [hc]
        have hm':=yJ (hm.2 hc)
        refine gq (S:=S) (h2 (fun vs=>li C pl o vs (cy S2) fun r M=>br o.dst r (eK S2 M) K2) ?_) ha
        rw [hm']
        refine h4 _ ?_
        rw [aE]
        exact hk
    rw [oR hmk] at h1
    have hkeep:vN C o vs (cy S) fun v M'=>(fun v M=>br o.dst v (eK S M) K) v M'∧(∀ t,addrOf o=some t→pQ (eZ pl ai o) S M'):=by
      cases ht:addrOf o with
      | none =>
        obtain ⟨r,M,h3,h4⟩:=j6 _ h1
        exact h4 _ ⟨h3,fun t e=>by cases e⟩
      | some t =>
        obtain ⟨c,hc1,hc2⟩:=oQ hkey ht
        obtain ⟨ty,y,ho⟩:=Ac ht (wn hmk) hc
        have hop:o.op.operands.toList=[.tmp t,y]:=by rw [ho]; simp [Op.operands]
        have hvs:∃ b,vs=[c,b]:=by
          have:=h2 (fun x=>x=vs) rfl
          rw [hop] at this
          obtain ⟨b,hb⟩:=wj hc1 this
          exact ⟨b,hb.symm⟩
        obtain ⟨b,rfl⟩:=hvs
        obtain ⟨r,M,h3,h4⟩:=j6 _ (C7 hc2 h1)
        exact h4 _ ⟨h3.1,fun t' _=>(show pQ (eZ pl ai o) (cy S) M from h3.2)⟩
    obtain ⟨r,M,⟨h3,h5⟩,h4⟩:=j6 _ hkeep
    rw [aE] at h3
    refine ⟨r,some M,⟨⟨fun hn=>absurd hc hn,fun M' e=>?_⟩,fun S2 ha hm K2 hk=>fin ha ?_⟩,h3⟩
    · cases e
      cases ht:addrOf o with
      | some t=>exact h5 t ht
      | none =>
        exfalso
        have h6:=h4 (fun _ _=>True) trivial
        unfold vN at h6
        split at h6
        · rename_i ty X Y p z ho
          cases X with
          | tmp t=>unfold addrOf at ht; rw [ho] at ht; cases ht
          | const cc =>
            have hv:=h2 (fun x=>x=[p,z]) rfl
            have hop:o.op.operands.toList=[.const cc,Y]:=by rw [ho]; simp [Op.operands]
            rw [hop] at hv
            have hv':g6 (BC cc) fun a=>cv S Y fun b=>[a,b]=[p,z]:=hv
            rw [bU] at hv'
            obtain ⟨b,hb,_⟩:=b5 _ hv'
            cases hb
            obtain ⟨cs,h7,_⟩:=bW _ h6
            have hno:∀ c:Value,∀ k i j,BC c≠.ptr k i j:=by
              intro c k i j
              unfold BC
              split
              · intro h; cases h
              · unfold sH
                split <;> intro h <;> cases h
            split at h7
            · obtain ⟨_,h7⟩:=ac h7
              unfold ki at h7
              split at h7
              · rename_i he; exact hno cc _ _ _ he
              · rename_i he; exact hno cc _ _ _ he
              · exact h7
            · exact h7
          | func f =>
            have hv:=h2 (fun x=>x=[p,z]) rfl
            have hop:o.op.operands.toList=[.func f,Y]:=by rw [ho]; simp [Op.operands]
            rw [hop] at hv
            have hv':cv S Y fun b=>[AV.fn f [] [],b]=[p,z]:=hv
            obtain ⟨b,hb,_⟩:=b5 _ hv'
            cases hb
            obtain ⟨cs,h7,_⟩:=bW _ h6
            split at h7
            · obtain ⟨_,h7⟩:=ac h7
              exact h7
            · exact h7
          | global g =>
            have hv:=h2 (fun x=>x=[p,z]) rfl
            have hop:o.op.operands.toList=[.global g,Y]:=by rw [ho]; simp [Op.operands]
            rw [hop] at hv
            obtain ⟨row,hv⟩:=t6 hv
            have hv':cv S Y fun b=>[AV.fptr row 0,b]=[p,z]:=hv
            obtain ⟨b,hb,_⟩:=b5 _ hv'
            cases hb
            obtain ⟨cs,h7,_⟩:=bW _ h6
            split at h7
            · obtain ⟨_,h7⟩:=ac h7
              exact h7
            · exact h7
        · exact h6
    · unfold uU
      rw [hc]
      have hm':=yJ (hm.2 hc)
      refine gq (S:=S) (h2 (fun vs=>li C pl o vs (cy S2) fun r M=>br o.dst r (eK S2 M) K2) ?_) ha
      rw [hm',oR hmk]
      refine h4 _ ?_
      rw [aE]
      exact hk
  · rename_i hc
    split at h
    · rename_i d hd
      rw [aE] at h
      refine ⟨_,none,⟨⟨fun _=>rfl,fun M e=>by cases e⟩,fun S2 ha _ K2 hk=>fin ha ?_⟩,h⟩
      unfold uU
      rw [hc]
      show match o.dst with
        | some d=>br o.dst (.ptr (.L d) 0 0) S2 K2
        | none=>ae 217
      split
      · rename_i d2 hd2
        rw [hd] at hd2
        cases hd2
        rw [aE]
        exact hk
      · rename_i hd2
        rw [hd] at hd2
        cases hd2
    · exact False.elim h
  · rename_i hc
    obtain ⟨vs,h1,h2⟩:=aX _ h
    obtain ⟨r,h3,h4⟩:=sq _ h1
    rw [aE] at h3
    refine ⟨r,none,⟨⟨fun _=>rfl,fun M e=>by cases e⟩,fun S2 ha _ K2 hk=>fin ha ?_⟩,h3⟩
    unfold uU
    rw [hc]
    refine gq (S:=S) (h2 (fun vs=>FP C o vs fun r=>br o.dst r S2 K2) (h4 _ ?_)) ha
    rw [aE]
    exact hk
  · rename_i h0 h1 h2 h4 h5
    exfalso
    unfold zK at hez
    split at hez
    · rename_i he; exact h0 he
    · rename_i he; exact h1 he
    · rename_i he; exact h2 he
    · rename_i he; exact h4 he
    · rename_i he; exact h5 he
    · cases hez
theorem xv {S:St} {t:List AV} (h:t=S.t):({ t:=t,l:=S.l,o:=S.o,b:=S.b }:St)=S:=by
  subst h; rfl
theorem fw {t:List AV} {d:Nat} {x:AV} (h:t[d]?=some x):t.set d x=t:=by
  apply List.ext_getElem?
  intro j
  rw [List.getElem?_set]
  by_cases hj:d=j
  · subst hj
    rw [if_pos rfl,if_pos (List.getElem?_eq_some_iff.1 h).1,h]
  · rw [if_neg hj]
def AT (S:St) (d:Nat) (b:Option Bool):Prop :=
  match b with
  | some b=>S.t[d]?=some (.v (.bool b))
  | none=>S.t[d]?=some (.tup [])
theorem rE {d:Nat} {S:St} {k:Option Bool→St→Prop}:fG d S k↔∃ b,AT S d b∧k b S:=by
  constructor
  · intro h
    unfold fG at h
    rw [b4] at h
    obtain ⟨c,hc,h⟩:=h
    split at h
    · rename_i b
      rcases kQ h with ⟨hb,h2⟩ | ⟨hb,h2⟩
      · subst hb
        rw [dH,xv (fw hc)] at h2
        exact ⟨some true,hc,h2⟩
      · subst hb
        rw [dH,xv (fw hc)] at h2
        exact ⟨some false,hc,h2⟩
    · exact ⟨none,hc,h⟩
    · exact False.elim h
  · rintro ⟨b,hb,h⟩
    unfold fG
    rw [b4]
    cases b with
    | none=>exact ⟨_,hb,h⟩
    | some b =>
      refine ⟨_,hb,?_⟩
      dsimp only
      refine zO (fun e=>?_) (fun e=>?_)
      · subst e; rw [dH,xv (fw hb)]; exact h
      · subst e; rw [dH,xv (fw hb)]; exact h
def agree (ai:Array Oper) (o:Oper) (S S2:St):Prop:=∀ d∈o.looksAt ai,S2.t[d]?=S.t[d]?
def Eff (C:Ctx) (pl:bG) (ai:Array Oper) (o:Oper) (S:St) (v:AV) (m:Option St):Prop :=
  rY pl ai o S m∧∀ S2,agree ai o S S2→rX pl ai o S S2→∀ K2:St→Prop,K2 (gV S2 o.dst v m)→ag C pl ai o S2 K2
theorem wq {ai:Array Oper} {o:Oper} {S S2:St} (h:agree ai o S S2):mI o.op.operands.toList S S2:=fun d hd =>
  h d (List.mem_append_left _ (List.mem_filterMap.2 ⟨.tmp d,hd,rfl⟩))
theorem Da {C:Ctx} (hC:fK C) {pl:bG} {ai:Array Oper} {o:Oper} {S:St} {K:St→Prop} (hez:zK (eY pl o)=true) (h:ag C pl ai o S K):∃ v m,Eff C pl ai o S v m∧K (gV S o.dst v m):=by
  unfold ag at h
  split at h
  · rename_i hg
    obtain ⟨v,m,⟨h1,h2⟩,h3⟩:=AS hC hez h
    refine ⟨v,m,⟨h1,fun S2 ha hm K2 hk=>?_⟩,h3⟩
    unfold ag
    rw [hg]
    exact h2 S2 (wq ha) hm K2 hk
  · rename_i j want hg
    split at h
    · exact False.elim h
    · rename_i d hd
      obtain ⟨b,hb,h⟩:=rE.1 h
      have hlook:d∈o.looksAt ai:=List.mem_append_right _ (by
        rw [hg]
        unfold pm at hd
        simp [hd])
      have hin:∀ (S2:St) (K2:St→Prop),agree ai o S S2→gsel b want (ol C pl ai o S2 K2) (br o.dst (.tup []) S2 K2)→ag C pl ai o S2 K2:=by
        intro S2 K2 ha hk
        unfold ag
        rw [hg]
        dsimp only
        rw [hd]
        refine rE.2 ⟨b,?_,hk⟩
        unfold AT at hb ⊢
        rw [ha d hlook]
        exact hb
      have yes:ol C pl ai o S K→(∀ (S2:St) (K2:St→Prop),agree ai o S S2→ol C pl ai o S2 K2→ag C pl ai o S2 K2)→∃ v m,Eff C pl ai o S v m∧K (gV S o.dst v m):=by
        intro h hi
        obtain ⟨v,m,⟨h1,h2⟩,h3⟩:=AS hC hez h
        exact ⟨v,m,⟨h1,fun S2 ha hm K2 hk=>hi S2 K2 ha (h2 S2 (wq ha) hm K2 hk)⟩,h3⟩
      have no:br o.dst (.tup []) S K→(∀ (S2:St) (K2:St→Prop),agree ai o S S2→br o.dst (.tup []) S2 K2→ag C pl ai o S2 K2)→∃ v m,Eff C pl ai o S v m∧K (gV S o.dst v m):=by
        intro h hi
        rw [aE] at h
        exact ⟨.tup [],none,⟨⟨fun _=>rfl,fun M e=>by cases e⟩,fun S2 ha _ K2 hk=>hi S2 K2 ha (by rw [aE]; exact hk)⟩,h⟩
      cases b with
      | none=>exact no h (fun S2 K2 ha hk=>hin S2 K2 ha hk)
      | some b =>
        cases b <;> cases want
        · exact yes h (fun S2 K2 ha hk=>hin S2 K2 ha hk)
        · exact no h (fun S2 K2 ha hk=>hin S2 K2 ha hk)
        · exact no h (fun S2 K2 ha hk=>hin S2 K2 ha hk)
        · exact yes h (fun S2 K2 ha hk=>hin S2 K2 ha hk)
theorem Db {S:St} {dst:Option Tmp} {v:AV} {m:Option St} {d:Nat} (h:dst≠some d):(gV S dst v m).t[d]?=S.t[d]?:=by
  unfold gV ju
  cases dst with
  | none=>cases m <;> rfl
  | some e =>
    have hne:e≠d:=fun he=>h (by rw [he])
    cases m <;> simp [eK,List.getElem?_set_ne hne]
theorem t9 {S:St} {dst:Option Tmp} {v:AV}:iW S (gV S dst v none):=by
  unfold gV ju
  cases dst <;> exact ⟨rfl,rfl,rfl⟩
def t_ (pl:bG) (ai:Array Oper) (x y:Oper):Prop :=
  eY pl x=2→eY pl y≠2∧(eY pl y=1→hG pl ai x y=true)
theorem rZ {pl:bG} {ai:Array Oper} {x y:Oper} (h:hG pl ai x y=true):hG pl ai y x=true:=by
  revert h
  unfold hG
  generalize eZ pl ai x=a
  generalize eZ pl ai y=b
  intro h
  cases a with
  | none=>cases b with
    | none=>exact h
    | some b=>rfl
  | some a=>cases b with
    | none=>rfl
    | some b =>
      have h':(!(Nat.beq a b))=true:=h
      show (!(Nat.beq b a))=true
      cases hb:Nat.beq b a with
      | false=>rfl
      | true =>
        have:=Nat.eq_of_beq_eq_true hb
        subst this
        rw [hb] at h'
        cases h'
theorem yN {pl:bG} {ai:Array Oper} {x y:Oper} (h:sR pl ai x y=true):x.apart ai y=true∧t_ pl ai x y∧t_ pl ai y x∧zK (eY pl x)=true∧zK (eY pl y)=true:=by
  unfold sR at h
  simp only [Bool.and_eq_true] at h
  refine ⟨h.1,fun e=>⟨fun e2=>?_,fun e2=>?_⟩,fun e=>⟨fun e2=>?_,fun e2=>?_⟩,?_,?_⟩
  · have h2:=h.2
    rw [e,e2] at h2
    simp at h2
  · have h2:=h.2
    rw [e,e2] at h2
    exact h2
  · have h2:=h.2
    rw [e,e2] at h2
    simp at h2
  · have h2:=h.2
    rw [e,e2] at h2
    exact rZ h2
  · have h2:=h.2
    revert h2
    split <;> rename_i h3 h4 <;> intro h2 <;> first | (rw [h3]; rfl) | cases h2
  · have h2:=h.2
    revert h2
    split <;> rename_i h3 h4 <;> intro h2 <;> first | (rw [h4]; rfl) | cases h2
theorem B6 {S:St} {x y:Option Tmp} {v u:AV} {m n:Option St} (h:∀ d,x=some d→y≠some d) (hm:m=none∨n=none):gV (gV S x v m) y u n=gV (gV S y u n) x v m:=by
  cases x with
  | none=>cases y <;> rcases hm with rfl | rfl <;> first | rfl | (cases m <;> rfl) | (cases n <;> rfl)
  | some d =>
    cases y with
    | none=>rcases hm with rfl | rfl <;> first | (cases m <;> rfl) | (cases n <;> rfl)
    | some e =>
      have hne:d≠e:=fun he=>h d rfl (he▸rfl)
      have hs:(S.t.set d v).set e u=(S.t.set e u).set d v:=List.set_comm _ _ hne
      rcases hm with rfl | rfl
      · cases n <;> simp only [gV,ju,eK,hs]
      · cases m <;> simp only [gV,ju,eK,hs]
theorem Dc {S:St} {dst:Option Tmp} {v:AV} {m:Option St}:(gV S dst v m).l=match m with | none=>S.l | some M=>M.l:=by
  unfold gV
  rw [cg]
  cases m <;> rfl
theorem yO {pl:bG} {ai:Array Oper} {x y:Oper} {S:St} {v:AV} {m:Option St} (hk:rY pl ai x S m) (hc:t_ pl ai x y):rX pl ai y S (gV S x.dst v m):=by
  cases m with
  | none=>exact .of t9
  | some M =>
    have h2:eY pl x=2:=by
      cases Nat.decEq (eY pl x) 2 with
      | isTrue h=>exact h
      | isFalse h=>have:=hk.1 h; cases this
    obtain ⟨h3,h4⟩:=hc h2
    refine ⟨fun h1=>?_,fun h=>absurd h h3⟩
    have hap:=h4 h1
    have hkm:=hk.2 M rfl
    have hoM:(gV S x.dst v (some M)).o=M.o:=by unfold gV; rw [cj]; rfl
    revert hap hkm
    unfold hG
    generalize eZ pl ai x=sx
    generalize eZ pl ai y=sy
    intro hap hkm
    cases sx with
    | some a=>cases sy with
      | some b =>
        show aJ _ b=_
        rw [Dc]
        refine hkm.2 b (fun e=>?_)
        subst e
        have h':(!(Nat.beq b b))=true:=hap
        rw [show Nat.beq b b=true from Nat.beq_refl b] at h'
        cases h'
      | none =>
        show (gV S x.dst v (some M)).o=S.o
        rw [hoM]
        exact hkm.1
    | none=>cases sy with
      | some b =>
        show aJ _ b=_
        rw [Dc]
        show aJ M.l b=_
        rw [show M.l=S.l from hkm]
      | none=>cases hap
theorem rX.symm {pl:bG} {ai:Array Oper} {o:Oper} {S S2:St} (h:rX pl ai o S S2):rX pl ai o S2 S:=⟨fun h1=>(h.1 h1).symm,fun h2=>(h.2 h2).symm⟩
theorem rX.trans {pl:bG} {ai:Array Oper} {o:Oper} {S S2 S3:St} (h:rX pl ai o S S2) (k:rX pl ai o S2 S3):rX pl ai o S S3:=⟨fun h1=>(h.1 h1).trans (k.1 h1),fun h2=>(h.2 h2).trans (k.2 h2)⟩
theorem pQ.of {site:Option Nat} {S S2 M:St} (h:iW S S2) (k:pQ site S2 M):pQ site S M:=by
  cases site with
  | some r =>
    obtain ⟨k1,k2⟩:=k
    refine ⟨k1.trans h.2.1,fun r' hr=>?_⟩
    rw [k2 r' hr,h.1]
  | none=>exact Eq.trans k h.1
theorem rY.after {pl:bG} {ai:Array Oper} {x y:Oper} {S:St} {v:AV} {m n:Option St} (hk:rY pl ai y (gV S x.dst v m) n) (hx:rY pl ai x S m) (hc:t_ pl ai x y):rY pl ai y S n:=by
  refine ⟨hk.1,fun M e=>?_⟩
  have h2:eY pl y=2:=by
    cases Nat.decEq (eY pl y) 2 with
    | isTrue h=>exact h
    | isFalse h=>have:=hk.1 h; rw [this] at e; cases e
  have hm:m=none:=hx.1 fun h=>(hc h).1 h2
  subst hm
  exact pQ.of t9 (hk.2 M e)
theorem rY.before {pl:bG} {ai:Array Oper} {x y:Oper} {S:St} {v:AV} {m n:Option St} (hx:rY pl ai x S m) (hy:rY pl ai y S n) (hc:t_ pl ai x y):rY pl ai x (gV S y.dst v n) m:=by
  refine ⟨hx.1,fun M e=>?_⟩
  have h2:eY pl x=2:=by
    cases Nat.decEq (eY pl x) 2 with
    | isTrue h=>exact h
    | isFalse h=>have:=hx.1 h; rw [this] at e; cases e
  have hn:n=none:=hy.1 fun h=>(hc h2).1 h
  subst hn
  exact pQ.of t9.symm (hx.2 M e)
theorem FZ {C:Ctx} (hC:fK C) {pl:bG} {ai:Array Oper} {oi oj:Oper} {v:AV} {m:Option St} (hap:sR pl ai oi oj=true) {K:St→Prop} {S:St}
    (hy:Eff C pl ai oi S v m) (h:ag C pl ai oj (gV S oi.dst v m) K):ag C pl ai oj S fun S'=>Eff C pl ai oi S' v m∧K (gV S' oi.dst v m):=by
  obtain ⟨hap,hc1,hc2,_,hez⟩:=yN hap
  obtain ⟨h1,h2,h3⟩:=Oper.apart_spec hap
  obtain ⟨u,n,hj,hk⟩:=Da hC hez h
  have hjk:rY pl ai oj S n:=hj.1.after hy.1 hc1
  refine hj.2 S (fun d hd=>(Db (fun e=>h1 d e hd)).symm) (yO hy.1 hc1).symm _ ⟨⟨hy.1.before hjk hc1,fun S2 ha hm K2 hk2=>hy.2 S2 (fun d hd=>(ha d hd).trans (Db (fun e=>h3 d e hd))) ((yO hjk hc2).trans hm) K2 hk2⟩,?_⟩
  rw [← B6 h2 ?_]
  · exact hk
  · by_cases h12:eY pl oi=2
    · exact .inr (hj.1.1 (hc1 h12).1)
    · exact .inl (hy.1.1 h12)
theorem ua {f:Nat→Edge→Nat} {acc:List Nat} {i:Nat} (hf:∀ s e,Nat.testBit (f s e) i=true→Nat.testBit s i=true∨(Region.binds .any e=true∧(e.on=i∨Nat.testBit (acc.getD e.on 0) i=true))):∀ (l:List Edge) (s:Nat),Nat.testBit (l.foldl f s) i=true →
    Nat.testBit s i=true∨∃ e∈l,Region.binds .any e=true∧(e.on=i∨Nat.testBit (acc.getD e.on 0) i=true)
  | [],s,h=>.inl h
  | e::l,s,h=>by
    rw [List.foldl_cons] at h
    rcases ua hf l _ h with h | ⟨e',he,h1,h2⟩
    · rcases hf _ _ h with h | ⟨h1,h2⟩
      · exact .inl h
      · exact .inr ⟨e,List.mem_cons_self,h1,h2⟩
    · exact .inr ⟨e',List.mem_cons_of_mem _ he,h1,h2⟩
theorem kq (o:Oper) (os:List Oper) (acc:List Nat):∃ b,bR (o::os) acc=bR os (acc++[b])∧∀ i,Nat.testBit b i=true→∃ e∈o.after,Region.binds .any e=true∧(e.on=i∨Nat.testBit (acc.getD e.on 0) i=true):=by
  refine ⟨_,rfl,fun i h=>?_⟩
  have hz:Nat.testBit 0 i=true→False:=fun h=>by simp at h
  refine (ua (acc:=acc) (fun s e h=>?_) _ _ h).elim (fun h=>(hz h).elim) (fun ⟨e,he,h1,h2⟩=>⟨e,by simpa using he,h1,h2⟩)
  split at h
  · rename_i hb
    have h':Nat.testBit (s ||| (2 ^ e.on ||| acc.getD e.on 0)) i=true:=h
    rw [Nat.testBit_or,Nat.testBit_or,Nat.testBit_two_pow] at h'
    simp only [Bool.or_eq_true,decide_eq_true_eq] at h'
    rcases h' with h' | h' | h'
    · exact .inl h'
    · exact .inr ⟨hb,.inl h'⟩
    · exact .inr ⟨hb,.inr h'⟩
  · exact .inl h
theorem nO:∀ (os:List Oper) (acc:List Nat),∃ l,bR os acc=acc++l
  | [],acc=>⟨[],by simp [bR]⟩
  | o::os,acc=>by
    obtain ⟨b,h1,_⟩:=kq o os acc
    obtain ⟨l,h⟩:=nO os (acc++[b])
    exact ⟨b::l,by rw [h1,h,List.append_assoc]; rfl⟩
theorem nP:∀ (os:List Oper) (acc:List Nat) (j:Nat) (o:Oper) (i:Nat),os[j]?=some o→Nat.testBit ((bR os acc).getD (acc.length + j) 0) i=true →
    ∃ e∈o.after,Region.binds .any e=true∧(e.on=i∨Nat.testBit ((bR os acc).getD e.on 0) i=true)
  | [],_,_,_,_,h,_=>by simp at h
  | o0::os,acc,0,o,i,h,hb=>by
    simp only [List.getElem?_cons_zero,Option.some.injEq] at h
    subst h
    obtain ⟨b,h1,h2⟩:=kq o0 os acc
    obtain ⟨l,hl⟩:=nO os (acc++[b])
    rw [h1,hl,List.append_assoc] at hb ⊢
    have e1:(acc++([b]++l)).getD (acc.length + 0) 0=b:=by
      simp [List.getD_eq_getElem?_getD]
    rw [e1] at hb
    obtain ⟨e,he,h3,h4⟩:=h2 i hb
    refine ⟨e,he,h3,h4.imp id (fun h=>?_)⟩
    by_cases hlt:e.on<acc.length
    · rw [List.getD_eq_getElem?_getD,List.getElem?_append_left hlt,← List.getD_eq_getElem?_getD]
      exact h
    · rw [List.getD_eq_getElem?_getD,List.getElem?_eq_none (by omega)] at h
      simp at h
  | o0::os,acc,j + 1,o,i,h,hb=>by
    obtain ⟨b,h1,h2⟩:=kq o0 os acc
    rw [h1] at hb ⊢
    refine nP os _ j o i (by simpa using h) ?_
    have:(acc++[b]).length + j=acc.length + (j + 1):=by simp; omega
    rw [this]
    exact hb
theorem waits {ai:Array Oper} {j i:Nat} {o:Oper} (hj:ai[j]?=some o) (h:Nat.testBit ((bR ai.toList []).getD j 0) i=true) :
    ∃ e∈o.after,Region.binds .any e=true∧(e.on=i∨Nat.testBit ((bR ai.toList []).getD e.on 0) i=true) :=
  nP ai.toList [] j o i (by simpa using hj) (by simpa using h)
def Closed (ai:Array Oper) (listed:Array Bool):Prop:=∀ j,listed.getD j false=true→∀ i,Nat.testBit ((bR ai.toList []).getD j 0) i=true→listed.getD i false=true
theorem Dd {listed:Array Bool} {i:Nat} (h:listed.getD i true=false):listed.getD i false=true→False:=by
  intro h2
  simp only [Array.getD_eq_getD_getElem?] at h h2
  cases hh:listed[i]? with
  | none=>rw [hh] at h; simp at h
  | some b=>rw [hh] at h h2; simp at h h2; rw [h] at h2; cases h2
theorem Closed.ready {ai:Array Oper} {listed:Array Bool} (hc:Closed ai listed) {j:Nat} (hj:j∈Region.ready .any ai listed) {i:Nat} (hb:Nat.testBit ((bR ai.toList []).getD j 0) i=true):listed.getD i false=true:=by
  obtain ⟨_,o,ho,hall⟩:=mem_ready.1 hj
  obtain ⟨e,he,h1,h2⟩:=waits ho hb
  rcases h2 with h2 | h2
  · rw [← h2]; exact hall e he h1
  · exact hc _ (hall e he h1) _ h2
theorem uc {listed:Array Bool} {i j:Nat} (h:listed.getD i false=true):(listed.setIfInBounds j true).getD i false=true:=by
  by_cases hij:j=i
  · subst hij
    simp only [Array.getD_eq_getD_getElem?] at *
    cases hh:listed[j]? with
    | none=>rw [hh] at h; simp at h
    | some b =>
      have:=(Array.getElem?_eq_some_iff.1 hh).1
      simp [this]
  · rw [getD_set_ne false hij]; exact h
theorem Closed.set {ai:Array Oper} {listed:Array Bool} (hc:Closed ai listed) {j:Nat} (hj:j∈Region.ready .any ai listed):Closed ai (listed.setIfInBounds j true):=by
  intro k hk i hb
  by_cases hjk:j=k
  · subst hjk
    exact uc (hc.ready hj hb)
  · rw [getD_set_ne false hjk] at hk
    exact uc (hc k hk i hb)
theorem mK {ai:Array Oper} {listed:Array Bool} {i j:Nat} (hi:i∈Region.ready .any ai listed) (hne:j≠i):i∈Region.ready .any ai (listed.setIfInBounds j true):=by
  obtain ⟨h1,o,ho,h2⟩:=mem_ready.1 hi
  exact mem_ready.2 ⟨by rw [getD_set_ne true hne]; exact h1,o,ho,fun e he hb=>uc (h2 e he hb)⟩
def De (C:Ctx) (pl:bG) (ai:Array Oper) (i:Nat) (K:St→Prop) (S:St):Prop :=
  match ai[i]? with
  | none=>K S
  | some o=>ag C pl ai o S K
def yP (C:Ctx) (pl:bG) (ai:Array Oper) (Q:St→Prop):Nat→Array Bool→St→Prop
  | 0,listed,S=>Region.ready .any ai listed=[]∧Q S
  | fuel + 1,listed,S=>(Region.ready .any ai listed=[]→Q S)∧∀ i∈Region.ready .any ai listed,De C pl ai i (yP C pl ai Q fuel (listed.setIfInBounds i true)) S
theorem AU {C:Ctx} (hC:fK C) {pl:bG} {ai:Array Oper} {o:Oper} {S:St} {K K':St→Prop} (h:ag C pl ai o S K) (hk:∀ S,K S→K' S):ag C pl ai o S K':=by
  obtain ⟨S',h1,h2⟩:=C4 hC _ h
  exact h2 K' (hk _ h1)
def Fr (pl:bG) (ai:Array Oper) (listed:Array Bool) (i:Nat) (oi:Oper):Prop:=∀ j oj,ai[j]?=some oj→j≠i→listed.getD j true=false→Nat.testBit ((bR ai.toList []).getD j 0) i=false→sR pl ai oi oj=true
theorem Ad {C:Ctx} (hC:fK C) {pl:bG} {ai:Array Oper} {Q:St→Prop} {i:Nat} {oi:Oper} {v:AV} {m:Option St} (hi:ai[i]?=some oi) :
    ∀ (fuel:Nat) (listed:Array Bool) (S:St),Closed ai listed→Fr pl ai listed i oi→i∈Region.ready .any ai listed→Eff C pl ai oi S v m →
      yP C pl ai Q fuel (listed.setIfInBounds i true) (gV S oi.dst v m)→yP C pl ai Q (fuel + 1) listed S:=by
  have here:∀ {S:St} {K:St→Prop},Eff C pl ai oi S v m→K (gV S oi.dst v m)→De C pl ai i K S:=by
    intro S K hy hk
    unfold De
    rw [hi]
    exact hy.2 S (fun _ _=>rfl) (.of (iW.refl S)) K hk
  intro fuel
  induction fuel with
  | zero =>
    intro listed S _ _ hr hy H
    refine ⟨fun h=>(by rw [h] at hr; cases hr),fun j hj=>?_⟩
    by_cases hji:j=i
    · subst hji; exact here hy H
    · have:=mK hj (fun e=>hji e.symm)
      rw [H.1] at this
      cases this
  | succ fuel ih =>
    intro listed S hcl hfree hr hy H
    refine ⟨fun h=>(by rw [h] at hr; cases hr),fun j hj=>?_⟩
    by_cases hji:j=i
    · subst hji; exact here hy H
    · have h1:=H.2 j (mK hj (fun e=>hji e.symm))
      obtain ⟨hjun,oj,hoj,hall⟩:=mem_ready.1 hj
      have hnot:Nat.testBit ((bR ai.toList []).getD j 0) i=false:=by
        cases hb:Nat.testBit ((bR ai.toList []).getD j 0) i with
        | false=>rfl
        | true=>exact (Dd (mem_ready.1 hr).1 (hcl.ready hj hb)).elim
      unfold De at h1 ⊢
      rw [hoj] at h1 ⊢
      have h2:=FZ hC (hfree j oj hoj hji hjun hnot) hy h1
      have hfree':Fr pl ai (listed.setIfInBounds j true) i oi:=fun k ok hk hki hun hno=>by
        refine hfree k ok hk hki ?_ hno
        by_cases hjk:j=k
        · subst hjk; exact hjun
        · rw [getD_set_ne true hjk] at hun; exact hun
      refine AU hC h2 (fun S' h3=>ih (listed.setIfInBounds j true) S' (hcl.set hj) hfree' (mK hr (fun e=>hji e)) h3.1 ?_)
      rw [Array.setIfInBounds_comm _ _ hji]
      exact h3.2
theorem Ae {pl:bG} {ai:Array Oper} {listed:Array Bool} {i:Nat} {oi:Oper} (hi:ai[i]?=some oi) (h:AL pl ai (bR ai.toList []) listed i=true):Fr pl ai listed i oi:=by
  intro j oj hj hji hun hno
  unfold AL at h
  rw [hi] at h
  have hlt:j<ai.size:=(Array.getElem?_eq_some_iff.1 hj).1
  have:=List.all_eq_true.1 h j (List.mem_range.2 hlt)
  rw [hj] at this
  simp only [hun,hno,Bool.or_eq_true,Bool.or_false] at this
  rcases this with h | h
  · exact absurd (Nat.eq_of_beq_eq_true h) hji
  · simpa using h
theorem F1 {x y:Value} (h:HM x y=true):x=y:=by
  unfold HM at h
  split at h
  · simp at h; rw [h]
  · simp at h; rw [h.1,h.2]
  · rename_i a b
    have h':=eq_of_beq h
    congr 1
    have:a.data=b.data:=Array.ext' h'
    cases a; cases b; simp_all
  · cases h
theorem F2 {x y:Key} (h:HN x y=true):x=y:=by
  unfold HN at h
  split at h
  · rw [Nat.eq_of_beq_eq_true h]
  · rw [Nat.eq_of_beq_eq_true h]
  · cases h
theorem gf {α:Type} {f:α→α→Bool} (hf:∀ x y,f x y=true→x=y):∀ {xs ys:List α},x6 f xs ys=true→xs=ys
  | [],[],_=>rfl
  | x::xs,y::ys,h=>by
    unfold x6 at h
    simp only [Bool.and_eq_true] at h
    rw [hf x y h.1,gf hf h.2]
  | [],_::_,h=>by cases h
  | _::_,[],h=>by cases h
theorem qQ:∀ (n:Nat) (x y:AV),BI n x y=true→x=y
  | 0,_,_,h=>by cases h
  | n + 1,x,y,h=>by
    have ih:=qQ n
    have nb:∀ {a b:Nat},Nat.beq a b=true→a=b:=fun h=>Nat.eq_of_beq_eq_true h
    unfold BI at h
    split at h <;> first | rfl | (cases h; done) | skip
    · rw [F1 h]
    · simp only [Bool.and_eq_true] at h; rw [F2 h.1.1,nb h.1.2,nb h.2]
    · simp only [Bool.and_eq_true] at h; rw [gf ih h.1,nb h.2]
    · rw [gf (fun _ _ h=>gf ih h) h]
    · rw [nb h]
    · rw [nb h]
    · simp only [Bool.and_eq_true] at h; rw [nb h.1.1.1,nb h.1.1.2,nb h.1.2,nb h.2]
    · rw [nb h]
    · simp only [Bool.and_eq_true] at h; rw [nb h.1.1,gf ih h.1.2,gf ih h.2]
    · rw [gf ih h]
    · rw [gf ih h]
theorem EE (x y:Ob) (h:FQ x y=true):x=y:=by
  unfold FQ at h
  split at h
  · simp only [Bool.and_eq_true,beq_iff_eq] at h
    rw [h.1.1,Nat.eq_of_beq_eq_true h.1.2,gf (fun _ _ h=>gf (qQ 8) h) h.2]
  · simp only [Bool.and_eq_true,beq_iff_eq] at h
    rw [h.1,gf (fun (x y:AV×AV) h=>by
      simp only [Bool.and_eq_true] at h
      exact Prod.ext (qQ 8 _ _ h.1) (qQ 8 _ _ h.2)) h.2]
  · rfl
  · cases h
theorem EF {S S':St} (h:FR S S'=true):S=S':=by
  unfold FR at h
  simp only [Bool.and_eq_true] at h
  obtain ⟨t,l,o,b⟩:=S
  obtain ⟨t',l',o',b'⟩:=S'
  simp only at h
  rw [gf (qQ 8) h.1.1.1,gf (fun (x y:Nat×List AV) h=>by
    simp only [Bool.and_eq_true] at h
    exact Prod.ext (Nat.eq_of_beq_eq_true h.1) (gf (qQ 8) h.2)) h.1.1.2,gf EE h.1.2,Nat.eq_of_beq_eq_true h.2]
theorem B7 {S2 S1:St} {X:Prop} (h:rc S2 S1 X):S2=S1∧X:=by
  unfold rc at h
  split at h
  · rename_i he; exact ⟨EF he,h⟩
  · exact h
theorem yQ {go:Nat→(St→Prop)→Prop} (hg:∀ i,aw (go i)):∀ {is:List Nat} {S1:St} {X:Prop},zL go is S1 X→X∧∀ i∈is,go i fun S2=>S2=S1
  | [],_,_,h=>⟨h,fun i hi=>by cases hi⟩
  | i::is,S1,X,h=>by
    obtain ⟨S2,h1,h2⟩:=hg i _ h
    obtain ⟨h3,h4⟩:=B7 h1
    obtain ⟨h5,h6⟩:=yQ hg h4
    refine ⟨h5,fun k hk=>?_⟩
    rcases List.mem_cons.1 hk with rfl | hk
    · exact h2 _ h3
    · exact h6 k hk
theorem nQ {pl:bG} {ai:Array Oper} {ws:List Nat} {listed:Array Bool}:∀ {is:List Nat} {k:Nat},mi pl ai ws listed is=some k→k∈is∧AL pl ai ws listed k=true∧∃ o,ai[k]?=some o∧zK (eY pl o)=true
  | [],_,h=>by cases h
  | i::is,k,h=>by
    unfold mi at h
    split at h
    · rename_i hb
      cases h
      simp only [Bool.and_eq_true] at hb
      refine ⟨List.mem_cons_self,hb.2,?_⟩
      have h1:=hb.1
      split at h1
      · rename_i o ho; exact ⟨o,ho,h1⟩
      · cases h1
    · obtain ⟨h1,h2⟩:=nQ h
      exact ⟨List.mem_cons_of_mem _ h1,h2⟩
theorem ud {C:Ctx} {pl:bG} {ai:Array Oper} {i:Nat} {S:St} {K:St→Prop} (h:vP C pl ai i S K):De C pl ai i K S:=by
  unfold vP at h
  unfold De
  split at h
  · exact False.elim h
  · rename_i o ho
    rw [ho]
    exact h
theorem Df {C:Ctx} (hC:fK C) {pl:bG} {ai:Array Oper} {i:Nat} {S:St} {K K':St→Prop} (h:De C pl ai i K S) (hk:∀ S,K S→K' S):De C pl ai i K' S:=by
  unfold De at h ⊢
  split
  · rename_i ho; rw [ho] at h; exact hk _ h
  · rename_i o ho; rw [ho] at h; exact AU hC h hk
theorem pR {C:Ctx} (hC:fK C) {pl:bG} {ai:Array Oper} {Q:St→Prop}:∀ (n:Nat) (listed:Array Bool) (S:St),Closed ai listed→iC C pl ai (bR ai.toList []) n listed S Q→yP C pl ai Q n listed S
  | 0,listed,S,_,h=>by
    unfold iC at h
    split at h
    · rename_i he; exact ⟨he,h⟩
    · exact False.elim h
  | n + 1,listed,S,hcl,h=>by
    unfold iC at h
    split at h
    · rename_i he
      exact ⟨fun _=>h,fun i hi=>by rw [he] at hi; cases hi⟩
    · rename_i r rs he
      split at h
      · rename_i k hk
        obtain ⟨hm,hf,o,ho,hez⟩:=nQ hk
        rw [← he] at hm
        have h1:=ud h
        unfold De at h1
        rw [ho] at h1
        obtain ⟨v,m,hy,hK⟩:=Da hC hez h1
        exact Ad hC ho n listed S hcl (Ae ho hf) hm hy (pR hC n _ _ (hcl.set hm) hK)
      · have hdet:∀ i,aw (fun K':St→Prop=>vP C pl ai i S fun S'=>iC C pl ai (bR ai.toList []) n (listed.setIfInBounds i true) S' K'):=fun i=>aw.bind (fa hC) (fun S'=>eN hC n _ S')
        obtain ⟨S1,h1,h2⟩:=hdet r _ h
        obtain ⟨h3,h4⟩:=yQ hdet h1
        refine ⟨fun h0=>(by rw [he] at h0; cases h0),fun i hi=>?_⟩
        have hi':=hi
        rw [he] at hi'
        have hgo:vP C pl ai i S fun S'=>iC C pl ai (bR ai.toList []) n (listed.setIfInBounds i true) S' Q:=by
          rcases List.mem_cons.1 hi' with rfl | hi'
          · exact h2 Q h3
          · obtain ⟨S2,h5,h6⟩:=hdet i _ (h4 i hi')
            exact h6 Q (by rw [h5]; exact h3)
        exact Df hC (ud hgo) (fun S' h=>pR hC n _ S' (hcl.set hi) h)
open Go.RowKit (Below)
def ZR (P:Program) (e:TypeId) (cs:List AV):Prop:=∃ i z,P.info? e=some i∧i.zero=some z∧∀ E,bY E cs z.cells.toList
theorem Af (k:Key) (c:Value):cx 4 k (sH c)=sH c:=by
  unfold sH
  split <;> rfl
theorem ue {P:Program} {e:TypeId} {k:List AV→Prop} (h:cm P e k):∃ cs,ZR P e cs∧k cs∧∀ k:Key,cs.map (cx 4 k)=cs:=by
  unfold cm at h
  split at h
  · rename_i i hi
    split at h
    · rename_i z hz
      obtain ⟨h1,h2⟩:=ac h
      rw [gk] at h2
      obtain ⟨i',z',cs,hi',hz',_,he,hcs⟩:=cN (P:=P) (e:=e) (k:=fun cs=>cs=z.cells.toList.map sH) (by
        unfold cm
        rw [hi]
        dsimp only
        rw [hz]
        dsimp only
        refine ak h1 ?_
        rw [gk])
      subst he
      refine ⟨_,⟨i',z',hi',hz',hcs⟩,h2,fun k=>?_⟩
      rw [List.map_map]
      exact List.map_congr_left fun c _=>Af k c
    · exact False.elim h
  · exact False.elim h
theorem ah.drawn {G:Gh} {p:Nat→Option (List AV)} {E:Env} {S:St} {w:World} {n:Nat} (h:ah G p E S w):ah G p E S { w with drawn:=n } :=
  ⟨h.hp,h.os,h.tape,h.output,h.size,h.keep,h.F0,h.Flt,h.Fnew,h.own,h.inj,h.loc,h.obj,h.old,h.bl,h.szs,h.pk,h.ow⟩
theorem f0.congr {p p':Nat→Option (List AV)} {E:Env} {x:Option (List AV)} {d:Nat} (h:f0 p E x d) (hp:p' d=p d):f0 p' E x d:=by
  unfold f0 at *
  cases x with
  | none=>exact h
  | some row =>
    rcases h with h | ⟨h1,h2,h3⟩
    · exact .inl h
    · exact .inr ⟨h1,hp.trans h2,h3⟩
def jG (o:Oper) (p:Nat→Option (List AV)):Nat→Option (List AV) :=
  match o.op,o.dst with
  | .alloc _,some d=>fun x=>if x=d then none else p x
  | _,_=>p
theorem jH {o:Oper} {p:Nat→Option (List AV)} (h:∀ e,o.op≠.alloc e):jG o p=p:=by
  unfold jG
  split
  · rename_i e d ho _
    exact (h _ ho).elim
  · rfl
theorem lD {o:Oper} {p:Nat→Option (List AV)} {e:TypeId} {d:Nat} (h:o.op=.alloc e) (hd:o.dst=some d):jG o p=fun x=>if x=d then none else p x:=by
  unfold jG
  rw [h,hd]
section
variable {G:Gh} {p:Nat→Option (List AV)} {E:Env} {S:St} {w:World} {C:Ctx} {pl:bG} {o:Oper} {a:Act} {K:St→Prop}
theorem xw {d:Nat} {e:TypeId} {cs:List AV} (hM:ah G p E S w) (ht:TR E S.t a) (ho:o.op=.alloc e) (hd:o.dst=some d) (hp:p d=some cs) (hz:ZR C.P e cs) (hpos:0<cs.length)
    (h:K (ju S (some d) (.ptr (.L d) 0 0))) (next:Act→World→Prop) (Q:Exit→Act→World→Prop)
    (hn:∀ S' E' a' w',K S'→ah G (jG o p) E' S' w'→TR E' S'.t a'→next a' w'):o.wp C.P a w next Q:=by
  obtain ⟨i,z,hi,hz,hcs⟩:=hz
  obtain ⟨hmu,hrow⟩:=hM.pk d cs hp
  have hrun:(execOp a.eval o).run C.P w=.ok (.value (.pointer (some ⟨w.heap.size,0,none⟩))) { w with heap:=w.heap.push (.cells z.cells e) }:=by
    simp [execOp,ho,Instr.alloc,cu hi hz,oy]
  refine cF hrun ?_
  have arr:∀ {E1:Env},bY E1 cs z.cells.toList→ce E1 (w.heap.push (.cells z.cells e)) [cs] w.heap.size 0 cs.length:=by
    intro E1 hcs1
    refine ce.of_rows hpos (fun r hr=>by simp at hr; subst hr; rfl) (di w _) (by have:=hcs1.1; simp at this; simp; omega) (fun i row r c h1 h2=>?_)
    cases i with
    | zero =>
      simp at h1
      subst h1
      obtain ⟨u,hu,hv⟩:=hcs1.get h2
      exact ⟨u,by simpa using hu,hv⟩
    | succ i=>simp at h1
  rw [lD ho hd] at hn
  obtain ⟨hle,hS⟩:=hM.newkey' (p':=fun x=>if x=d then none else p x) (ob:=.cells z.cells e) (key:=.L d) (sz:=cs.length) (n:=1) (fun x hx=>if_neg fun h=>hx (by rw [h])) (fun x hx=>by cases hx; exact if_pos rfl) hmu
    (M':=S) (fun _ _=>rfl) (fun _ _=>rfl) rfl hM.bl (fun id he=>by cases he)
    (fun e he hle=>by
      cases he
      rw [hrow]
      refine .inl ⟨w.heap.size,?_,arr (hcs _)⟩
      show aF E.mu (.L d) _ (.L d)=_
      unfold aF
      rw [if_pos rfl])
    (fun id he=>by cases he) zR
  refine hn _ _ _ _ h (hS.congr cg cj cp) ?_
  have:=(ht.mono hle).put (S:=S) (dst:=o.dst) (c:=.ptr (.L d) 0 0) (u:=.pointer (some ⟨w.heap.size,0,none⟩)) (by
    have hmu':aF E.mu (.L d) (.blk w.heap.size 0 cs.length 1) (.L d)=some (.blk w.heap.size 0 cs.length 1):=by unfold aF; rw [if_pos rfl]
    have:=VR.ptr (E:=⟨E.F,aF E.mu (.L d) (.blk w.heap.size 0 cs.length 1),w.heap.push (.cells z.cells e)⟩) 0 0 rfl hmu'
    simpa using this)
  rw [hd] at this ⊢
  exact this
theorem B8 {e:TypeId} (ho:o.op=.alloc e):eY pl o=4:=by
  have hw:fp pl o=false:=by unfold fp; rw [ho]
  unfold eY
  rw [hw]
  dsimp only
  unfold vO
  rw [ho]
theorem yR {C:Ctx} (hC:dJ C) {pl:bG} {o:Oper} {S:St} {K:St→Prop} {G:Gh} {pd:Nat→Option (List AV)} {E:Env} {w:World} {a:Act} {c:Call} (hM:ah G pd E S w) (ht:TR E S.t a) (ho:o.op=.call c) (h:nF C pl o S K):cE C.P G pd o a w K:=by
  unfold nF at h
  obtain ⟨vs,h,hv⟩:=cH ht h
  have hw:fp pl o=false:=by unfold fp; rw [ho]
  unfold li at h
  rw [hw] at h
  dsimp only at h
  unfold j1 at h
  rw [ho] at h hv
  split at h
  · rename_i he; cases he
  · rename_i c' fid first cap as he
    cases he
    split at h
    · rename_i x hcal
      obtain ⟨h1,h⟩:=ac h
      simp only [Bool.and_eq_true] at h1
      have hv:bY E (.fn fid first cap::as) (a.eval x::c.args.toList.map a.eval):=by simpa [Op.operands,Call.operands,hcal] using hv
      obtain ⟨u,us,e,hf,has⟩:=hv.uncons
      cases e
      obtain ⟨g1,g2⟩:=hC.scall _ _ _ _ h
      refine ry hM ht ho hcal hf has h1.2 ⟨g1,fun E w us hM hg hv=>(g2 E w us hM hg hv).mono ?_⟩
      rintro e w' ⟨v,r,o',E',hk,rest⟩
      obtain ⟨h4,h5⟩:=ac hk
      refine ⟨v,r,o',E',?_,rest⟩
      have h4:bQ S.o o' 0=[]:=List.isEmpty_iff.1 h4
      show iO (bQ S.o o' 0) S.t S.l _
      rw [h4]
      exact h5
    · exact h.elim
  · rename_i hne
    unfold vN at h
    rw [ho] at h
    exact h.elim
theorem yS {C:Ctx} (hC:dJ C) {pl:bG} {o:Oper} {S:St} {K:St→Prop} {G:Gh} {pd:Nat→Option (List AV)} {E:Env} {w:World} {a:Act} (hM:ah G pd E S w) (ht:TR E S.t a) (h:nF C pl o S K):cE C.P G pd o a w K:=by
  cases hw:fp pl o with
  | true =>
    refine tj (pl:=pl) hM ht ?_
    unfold nF at h
    unfold wR
    have e:∀ vs M k,li C pl o vs M k=jV C.P pl o vs M k:=fun vs M k=>by unfold li; rw [hw]
    simp only [e] at h
    exact h
  | false =>
  have e:∀ vs M k,li C pl o vs M k=j1 C o vs M k:=fun vs M k=>by unfold li; rw [hw]
  by_cases hmk:wm pl o
  · rcases hmk with (⟨t,X,Y,ho⟩ | ⟨c,ho⟩) | hmk
    rotate_left
    · exact yR hC hM ht ho h
    · rw [hw] at hmk; cases hmk
    refine lT (bx:=false) hM ht ho ?_
    unfold nF at h
    simp only [e] at h
    rw [ho] at h
    have h':cv S X fun l=>cv S Y fun c=>bT C.P t l c (cy S) fun M' r=>br o.dst r (eK S M') K:=by
      have h:cv S X fun l=>cv S Y fun c=>j1 C o [l,c] (cy S) fun r M=>br o.dst r (eK S M) K:=h
      obtain ⟨l,h1,h2⟩:=b5 _ h
      obtain ⟨c,h3,h4⟩:=b5 _ h1
      refine h2 (fun l=>cv S Y fun c=>bT C.P t l c (cy S) fun M' r=>br o.dst r (eK S M') K) (h4 (fun c=>bT C.P t l c (cy S) fun M' r=>br o.dst r (eK S M') K) ?_)
      unfold j1 at h3
      rw [ho] at h3
      exact h3
    obtain ⟨l,h1,h2⟩:=b5 _ h'
    obtain ⟨c,h3,h4⟩:=b5 _ h1
    refine h2 (fun l=>cv S Y fun c=>bT C.P t l c S fun S' r=>br o.dst r S' K) (h4 (fun c=>bT C.P t l c S fun S' r=>br o.dst r S' K) ?_)
    unfold bT at h3 ⊢
    exact h3
  · refine tm hM ht ?_
    unfold nF at h
    unfold BG
    obtain ⟨vs,h1,h2⟩:=aX _ h
    refine h2 (fun vs=>vN C o vs (cy S) fun r M=>br o.dst r (eK S M) K) ?_
    rw [oR hmk] at h1
    exact h1
theorem B9 (hC:dJ C) (hM:ah G p E S w) (ht:TR E S.t a) (hA:∀ e d,o.op=.alloc e→o.dst=some d→∃ cs,p d=some cs∧0<cs.length∧ZR C.P e cs) (h:uU C pl o S K) (next:Act→World→Prop) (Q:Exit→Act→World→Prop)
    (hn:∀ S' E' a' w',K S'→ah G (jG o p) E' S' w'→TR E' S'.t a'→next a' w'):o.wp C.P a w next Q:=by
  by_cases hal:∃ e,o.op=.alloc e
  · obtain ⟨e,ho⟩:=hal
    unfold uU at h
    rw [B8 ho] at h
    have h':match o.dst with
      | some d=>br o.dst (.ptr (.L d) 0 0) S K
      | none=>ae 217:=h
    split at h'
    · rename_i d hd
      obtain ⟨cs,h3,h4,h5⟩:=hA e d ho hd
      rw [aE,hd] at h'
      exact xw hM ht ho hd h3 h5 h4 h' next Q hn
    · exact False.elim h'
  · rw [jH (fun e he=>hal ⟨e,he⟩)] at hn
    unfold uU at h
    split at h
    · exact tk hM ht h next Q hn
    · exact tl hC hM ht h next Q hn
    · exact yS hC hM ht h next Q hn
    · rename_i hc
      exfalso
      unfold eY at hc
      rw [wo (by unfold eY; rw [hc]; decide)] at hc
      dsimp only at hc
      unfold vO at hc
      split at hc
      · split at hc <;> cases hc
      · rename_i e ho; exact hal ⟨e,ho⟩
      · cases hc
      · split at hc
        · split at hc
          · cases hc
          · split at hc <;> cases hc
        · cases hc
        · split at hc <;> cases hc
        · unfold CM at hc
          split at hc <;> try (cases hc; done)
          all_goals (split at hc <;> cases hc)
      · unfold CM at hc
        split at hc <;> try (cases hc; done)
        all_goals (split at hc <;> cases hc)
    · exact zV hM ht h next Q hn
    · split at h
      · exact False.elim h
      · rename_i hb
        exact v_ hC (fun he=>by rw [hb] at he; cases he) hM ht h next Q hn
end
def Inv (P:Program) (p:Nat→Option (List AV)) (ai:Array Oper) (listed:Array Bool):Prop :=
  ∀ (i:Nat) (o:Oper) (e:TypeId) (d:Nat),ai[i]?=some o→o.op=.alloc e→o.dst=some d→listed.getD i true=false→∃ cs,p d=some cs∧0<cs.length∧ZR P e cs
def xx (ai:Array Oper):Prop:=∀ (i i':Nat) (o o':Oper) (e e':TypeId) (d:Nat),ai[i]?=some o→ai[i']?=some o'→o.op=.alloc e→o'.op=.alloc e'→o.dst=some d→o'.dst=some d→i=i'
theorem Ag {listed:Array Bool} {i:Nat}:(listed.setIfInBounds i true).getD i true=true:=by
  simp only [Array.getD_eq_getD_getElem?,Array.getElem?_setIfInBounds,if_pos]
  split <;> rfl
theorem Inv.step {P:Program} {p:Nat→Option (List AV)} {ai:Array Oper} {listed:Array Bool} {i:Nat} {o:Oper} (h:Inv P p ai listed) (hap:xx ai) (hi:ai[i]?=some o) :
    Inv P (jG o p) ai (listed.setIfInBounds i true):=by
  intro j oj e d hj hoj hdj hjun
  have hij:i≠j:=fun he=>by subst he; rw [Ag] at hjun; cases hjun
  rw [getD_set_ne true hij] at hjun
  obtain ⟨cs,h1,h2⟩:=h j oj e d hj hoj hdj hjun
  refine ⟨cs,?_,h2⟩
  by_cases hal:∃ e,o.op=.alloc e
  · obtain ⟨e',ho⟩:=hal
    cases hd:o.dst with
    | none =>
      unfold jG
      rw [ho,hd]
      exact h1
    | some d' =>
      rw [lD ho hd]
      show (if d=d' then none else p d)=_
      rw [if_neg (fun he=>by subst he; exact hij (hap i j o oj e' e d hi hj ho hoj hd hdj))]
      exact h1
  · rw [jH (fun e he=>hal ⟨e,he⟩)]
    exact h1
theorem Ah {o:Oper} {p:Nat→Option (List AV)} {d:Nat} (h:jG o p d≠none):p d≠none:=by
  by_cases hal:∃ e,o.op=.alloc e
  · obtain ⟨e',ho⟩:=hal
    cases hd:o.dst with
    | none =>
      unfold jG at h
      rw [ho,hd] at h
      exact h
    | some d' =>
      rw [lD ho hd] at h
      intro hn
      apply h
      show (if d=d' then none else p d)=none
      split
      · rfl
      · exact hn
  · rw [jH (fun e he=>hal ⟨e,he⟩)] at h
    exact h
def Q0 (Q:Exit→Act→World→Prop) (e:Exit) (a:Act) (w:World):Prop:=e=.normal∧Q .normal a w
theorem GY {P:Program} {o:Oper} {a:Act} {w:World} {next:Act→World→Prop} {Q:Exit→Act→World→Prop} (h:o.wp P a w next (Q0 Q)):o.wp P a w next Q:=by
  unfold Oper.wp at *
  revert h
  generalize (execOp a.eval o).run P w=x
  intro h
  cases x with
  | ok x w' =>
    cases x with
    | enter f args=>exact Calls.mono h (fun e w'' he=>by
        cases e with
        | returned v=>exact he
        | panicked c=>exact absurd he.1 (fun h=>by cases h)
        | outgrown=>obtain ⟨_,_,h,_⟩:=he; cases h)
    | _=>exact h
  | halt x w' =>
    cases x with
    | panic v=>exact absurd h.1 (fun h=>by cases h)
    | _=>exact h
theorem Dh {ai:Array Oper} (h:HA ai=true):Region.noSelect ai=true∧∀ (i:Nat) (o:Oper),ai[i]?=some o→∀ c,o.op≠.defer c:=by
  unfold HA at h
  rw [Bool.and_eq_true] at h
  refine ⟨h.1,fun i o ho c hc=>?_⟩
  have:=List.all_eq_true.1 h.2 o (by rw [Array.mem_toList_iff]; exact Array.mem_of_getElem? ho)
  rw [hc] at this
  cases this
theorem pS {P:Program} {rr:Option Nat} {ai:Array Oper} {Q:Exit→Act→World→Prop} (hnd:∀ (i:Nat) (o:Oper),ai[i]?=some o→∀ c,o.op≠.defer c) :
    ∀ (fuel:Nat) (listed:Array Bool) (a:Act) (w:World),wpAny P .any ai (Q0 Q) fuel listed a w→wpAnyIn (rd rr) 0 P .any ai Q fuel listed a w
  | 0,_,_,_,h=>⟨h.1,h.2.2⟩
  | fuel + 1,listed,a,w,h=>by
    refine ⟨fun h0=>(h.1 h0).2,fun i hi=>?_⟩
    have h1:=h.2 i hi
    unfold wpOpIn
    unfold wpOp at h1
    split at h1
    · rename_i ho
      rw [ho]
      exact pS hnd fuel _ _ _ h1
    · rename_i o ho
      rw [ho]
      dsimp only
      split at h1
      · rename_i hw
        rw [if_pos hw]
        rcases h1 with h1 | ⟨_,_,_,h1,_⟩
        · exact wa (hnd i o ho) (GY (Oper.wp_mono (fun a w h=>pS hnd fuel _ _ _ h) h1))
        · cases h1
      · rename_i hw
        rw [if_neg hw]
        exact ⟨fun _ _=>trivial,pS hnd fuel _ _ _ h1⟩
theorem lE {C:Ctx} (hC:dJ C) {pl:bG} {ai:Array Oper} {G:Gh} {A:Nat→Prop} {Q:St→Prop} {Qc:Exit→Act→World→Prop} (hap:xx ai) (hg:∀ (i:Nat) (o:Oper) (e:TypeId),ai[i]?=some o→o.op=.alloc e→o.guard=none)
    (hQ:∀ p S' E' a' w',(∀ d,p d≠none→A d)→Q S'→ah G p E' S' w'→TR E' S'.t a'→Qc .normal a' w') :
    ∀ (fuel:Nat) (listed:Array Bool) (p:Nat→Option (List AV)) (S:St) (E:Env) (a:Act) (w:World),(∀ d,p d≠none→A d)→ah G p E S w→TR E S.t a→Inv C.P p ai listed→yP C pl ai Q fuel listed S→wpAny C.P .any ai Qc fuel listed a w
  | 0,_,_,_,_,_,_,hA,hM,ht,_,h=>⟨h.1,hQ _ _ _ _ _ hA h.2 hM ht⟩
  | fuel + 1,listed,p,S,E,a,w,hA,hM,ht,hI,h=>by
    refine ⟨fun h0=>hQ _ _ _ _ _ hA (h.1 h0) hM ht,fun i hi=>?_⟩
    have h1:=h.2 i hi
    obtain ⟨hun,o,ho,_⟩:=mem_ready.1 hi
    unfold De at h1
    unfold wpOp
    rw [ho] at h1 ⊢
    dsimp only at h1 ⊢
    have goon:∀ S' E' a' w',yP C pl ai Q fuel (listed.setIfInBounds i true) S'→ah G (jG o p) E' S' w'→TR E' S'.t a'→wpAny C.P .any ai Qc fuel (listed.setIfInBounds i true) a' w' :=
      fun S' E' a' w' hk hS htr=>lE hC hap hg hQ fuel _ _ S' E' a' w' (fun d hd=>hA d (Ah hd)) hS htr (hI.step hap ho) hk
    have step:∀ {S1:St},ah G p E S1 w→TR E S1.t a→ol C pl ai o S1 (yP C pl ai Q fuel (listed.setIfInBounds i true))→Region.wanted o (yielded ai a.tmps)=true→(if Region.wanted o (yielded ai a.tmps) then o.wp C.P a w (wpAny C.P .any ai Qc fuel (listed.setIfInBounds i true)) Qc∨(o.asks C.P a w∧LetsOut Qc) else wpAny C.P .any ai Qc fuel (listed.setIfInBounds i true) (a.put o.dst undef) w):=by
      intro S1 hM1 ht1 h hw
      obtain ⟨_,h⟩:=ac h
      rw [if_pos hw]
      exact .inl (B9 hC hM1 ht1 (fun e d h1 h2=>hI i o e d ho h1 h2 hun) h _ _ goon)
    unfold ag at h1
    split at h1
    · rename_i hgd
      exact step hM ht h1 (by unfold Region.wanted; rw [hgd])
    · rename_i j want hgd
      split at h1
      · exact False.elim h1
      · rename_i d hd
        obtain ⟨b,S1,h1,hb,hM1,ht1⟩:=i5 hM ht h1
        rcases j4 hgd (lu hd hb) h1 with ⟨hw,h1⟩ | ⟨hw,h1⟩
        · exact step hM1 ht1 h1 hw
        · rw [aE] at h1
          rw [if_neg (by rw [hw]; exact fun h=>by cases h)]
          have hnal:∀ e,o.op≠.alloc e:=fun e he=>by
            have:=hg i o e ho he
            rw [hgd] at this
            cases this
          refine goon _ E _ w h1 ?_ (ht1.put (pJ _))
          rw [jH hnal]
          exact hM1.congr cg cj cp
theorem Ai {pl:bG} {o:Oper} (h:qx o=true):eY pl o=0∧o.guard=none∧(∀ t len parts,o.op≠.buildSlice t len parts)∧∀ e,o.op≠.alloc e:=by
  unfold qx at h
  split at h
  · cases h
  · rename_i hg
    split at h
    all_goals first
      | (rename_i ho; refine ⟨?_,hg,fun _ _ _ he=>(by rw [ho] at he; cases he),fun _ he=>(by rw [ho] at he; cases he)⟩; unfold eY fp; rw [ho]; dsimp only; unfold vO; rw [ho]; dsimp only; unfold CM; rw [ho])
      | cases h
theorem Aj {C:Ctx} {pl:bG} {o:Oper} {vs:List AV} {k:AV→Prop} {E:Env} {a:Act} (hp:qx o=true) (h:pop C pl o vs k) (hv:bY E vs (o.op.operands.toList.map a.eval)):∃ r z,k r∧VR E r z∧∀ w,(execOp a.eval o).run C.P w=.ok (.value z) w:=by
  unfold qx at hp
  split at hp
  · cases hp
  · split at hp
    · rename_i x ho
      rw [ho] at hv
      unfold pop at h
      rw [ho] at h
      split at h <;> rename_i he <;> first | (cases he; done) | skip
      all_goals first
        | (cases he
           obtain ⟨u,us,e,hc,hn⟩:=hv.uncons
           simp [Op.operands] at e
           exact ⟨_,_,h,hc,fun w=>by simp [execOp,ho,e.1]⟩)
        | exact h.elim
    · rename_i x ho
      rw [ho] at hv
      unfold pop at h
      rw [ho] at h
      split at h <;> rename_i he <;> first | (cases he; done) | skip
      all_goals first
        | (cases he
           obtain ⟨u,us,e,hc,hn⟩:=hv.uncons
           simp [Op.operands] at e
           exact ⟨_,_,h,hc,fun w=>by simp [execOp,ho,e.1]⟩)
        | exact h.elim
    · rename_i x ho
      rw [ho] at hv
      unfold pop at h
      rw [ho] at h
      split at h <;> rename_i he <;> first | (cases he; done) | skip
      all_goals first
        | (cases he
           obtain ⟨u,us,e,hc,hn⟩:=hv.uncons
           simp [Op.operands] at e
           have hc0:=hc
           cases hc with
           | ptr _ _ hs0 hm=>exact ⟨_,_,h,hc0,fun w=>by simp [execOp,ho,e.1]⟩)
        | (cases he
           obtain ⟨u,us,e,hc,hn⟩:=hv.uncons
           simp [Op.operands] at e
           have hc0:=hc
           cases hc with
           | fptr _ us h1 h2 h3 h4=>exact ⟨_,_,h,hc0,fun w=>by simp [execOp,ho,e.1]⟩)
        | (cases he
           obtain ⟨u,us,e,hc,hn⟩:=hv.uncons
           simp [Op.operands] at e
           have hc0:=hc
           cases hc with
           | fn us ws h1 h2 h3 h4=>exact ⟨_,_,h,hc0,fun w=>by simp [execOp,ho,e.1]⟩)
        | exact h.elim
    · rename_i t x f ho
      rw [ho] at hv
      unfold pop at h
      rw [ho] at h
      split at h <;> rename_i he <;> first | (cases he; done) | skip
      all_goals first
        | (cases he
           obtain ⟨u,us,e,hc,hn⟩:=hv.uncons
           simp [Op.operands] at e
           obtain ⟨r,z,hk,hr,hrun⟩:=lR h hc
           exact ⟨r,z,hk,hr,fun w=>by simp [execOp,ho,e.1,hrun w]⟩)
        | exact h.elim
    · cases hp
theorem nR {ai:Array Oper} {listed:Array Bool}:∀ {is:List Nat} {i:Nat},mj ai listed is=some i→i∈is∧∃ o,ai[i]?=some o∧qx o=true∧Region.free .any ai listed i=true
  | [],_,h=>by cases h
  | j::js,i,h=>by
    unfold mj at h
    split at h
    · rename_i hb
      cases h
      rw [Bool.and_eq_true] at hb
      obtain ⟨h1,h2⟩:=hb
      split at h1
      · rename_i o ho
        exact ⟨List.mem_cons_self,o,ho,h1,h2⟩
      · cases h1
    · obtain ⟨h1,h2⟩:=nR h
      exact ⟨List.mem_cons_of_mem _ h1,h2⟩
theorem uf {C:Ctx} (hD:fK C) (hC:dJ C) {pl:bG} {ai:Array Oper} {G:Gh} {A:Nat→Prop} {Q:St→Prop} {Qc:Exit→Act→World→Prop} (hs:Region.noSelect ai=true) (hap:xx ai) (hg:∀ (i:Nat) (o:Oper) (e:TypeId),ai[i]?=some o→o.op=.alloc e→o.guard=none)
    (hQ:∀ p S' E' a' w',(∀ d,p d≠none→A d)→Q S'→ah G p E' S' w'→TR E' S'.t a'→Q0 Qc .normal a' w') :
    ∀ (fuel:Nat) (listed:Array Bool) (p:Nat→Option (List AV)) (S:St) (E:Env) (a:Act) (w:World),(∀ d,p d≠none→A d)→ah G p E S w→TR E S.t a→Inv C.P p ai listed→Closed ai listed→rR C pl ai (bR ai.toList []) fuel listed S Q→wpAny C.P .any ai (Q0 Qc) fuel listed a w
  | 0,listed,p,S,E,a,w,hA,hM,ht,hI,hcl,h=>lE hC hap hg hQ 0 listed p S E a w hA hM ht hI (pR hD 0 listed S hcl h)
  | fuel + 1,listed,p,S,E,a,w,hA,hM,ht,hI,hcl,h=>by
    unfold rR at h
    split at h
    · rename_i i hi
      obtain ⟨hm,o,ho,hp,hf⟩:=nR hi
      obtain ⟨hc0,hgd,_,hnal⟩:=Ai (pl:=pl) hp
      unfold vP at h
      rw [ho] at h
      dsimp only at h
      unfold ag at h
      rw [hgd] at h
      obtain ⟨_,h⟩:=ac h
      unfold uU at h
      rw [hc0] at h
      obtain ⟨vs,h,hv⟩:=cH ht h
      obtain ⟨r,z,hk,hr,hrun⟩:=Aj hp h hv
      rw [aE] at hk
      refine wpAny_take ho hs hf (by simpa using hm) (fun c a w hq=>absurd hq.1 (fun h=>by cases h)) (v:=z) (.inl ⟨by unfold Region.wanted; rw [hgd],hrun⟩) ?_
      have hI':=hI.step hap ho
      rw [jH hnal] at hI'
      exact uf hD hC hs hap hg hQ fuel _ p _ E _ w hA (hM.congr cg cj cp) (ht.put hr) hI' (hcl.set hm) hk
    · exact lE hC hap hg hQ (fuel + 1) listed p S E a w hA hM ht hI (pR hD (fuel + 1) listed S hcl h)
theorem ug {o:Oper} {e:TypeId} {d:Nat} (h1:o.op=.alloc e) (h2:o.dst=some d):∀ {os:List Oper},o∈os→(d,e)∈cb os:=by
  intro os
  induction os with
  | nil=>intro h; cases h
  | cons x xs ih =>
    intro h
    rcases List.mem_cons.1 h with rfl | h
    · unfold cb
      rw [h1,h2]
      exact List.mem_cons_self
    · have:=ih h
      unfold cb
      split
      · exact List.mem_cons_of_mem _ this
      · exact this
theorem yT {d:Nat}:∀ {xs:List Nat},d∈xs→cC xs d=true:=by
  intro xs
  induction xs with
  | nil=>intro h; cases h
  | cons x xs ih =>
    intro h
    rcases List.mem_cons.1 h with rfl | h
    · simp [cC]
    · simp [cC,ih h]
theorem yU {pl:bG} {x:Oper} {xs:List Oper} (hB:i4 pl (cb (x::xs))=true):i4 pl (cb xs)=true:=by
  unfold cb at hB
  split at hB
  · unfold i4 at hB
    simp only [Bool.and_eq_true] at hB
    exact hB.2
  · exact hB
theorem pT {pl:bG} {o o':Oper} {e e':TypeId} {d:Nat} (h3:o.op=.alloc e) (h4:o'.op=.alloc e') (h5:o.dst=some d) (h6:o'.dst=some d):∀ (os:List Oper),i4 pl (cb os)=true→∀ (i i':Nat),i<i'→os[i]?=some o→os[i']?=some o'→False:=by
  intro os
  induction os with
  | nil=>intro _ i i' _ h1; simp at h1
  | cons x xs ih =>
    intro hB i i' hlt h1 h2
    cases i' with
    | zero=>omega
    | succ i' =>
      rw [List.getElem?_cons_succ] at h2
      cases i with
      | zero =>
        rw [List.getElem?_cons_zero] at h1
        cases h1
        have hm:=ug h4 h6 (List.mem_of_getElem? h2)
        unfold cb at hB
        rw [h3,h5] at hB
        unfold i4 at hB
        simp only [Bool.and_eq_true,Bool.not_eq_true'] at hB
        have:=yT (d:=d) (xs:=(cb xs).map (·.1)) (List.mem_map.2 ⟨_,hm,rfl⟩)
        rw [hB.1.2] at this
        cases this
      | succ i =>
        rw [List.getElem?_cons_succ] at h1
        exact ih (yU hB) i i' (by omega) h1 h2
theorem yV {o:Oper} {e:TypeId} (ho:o.op=.alloc e):∀ {os:List Oper},sf os=true→o∈os→o.guard=none:=by
  intro os
  induction os with
  | nil=>intro _ h; cases h
  | cons x xs ih =>
    intro h hm
    unfold sf at h
    simp only [Bool.and_eq_true] at h
    rcases List.mem_cons.1 hm with rfl | hm
    · have h1:=h.1
      cases hg:o.guard with
      | none=>rfl
      | some g=>rw [ho,hg] at h1; cases h1
    · exact ih h.2 hm
section
variable {G:Gh} {w:World} {a:Act} {P:Program}
theorem rF:∀ {ds:List Nat} {E:Env} {S:St} {K:St→Prop},ah G pn E S w→TR E S.t a→lg ds S K→∃ S' E',K S'∧ah G pn E' S' w∧TR E' S'.t a∧∀ d,(E.mu (.L d)=none∨d∈ds)→E'.mu (.L d)=none
  | [],E,S,K,hM,ht,h=>⟨S,E,h,hM,ht,fun d hd=>by rcases hd with hd | hd; exact hd; cases hd⟩
  | d::ds,E,S,K,hM,ht,h=>by
    unfold lg at h
    rw [v1] at h
    obtain ⟨E1,h1,h2,h3,_,_,_,_,h4,_,_⟩:=ox hM ht d rfl
    obtain ⟨S',E',h5,h6,h7,h8⟩:=rF h1 h2 h
    refine ⟨S',E',h5,h6,h7,fun e he=>h8 e ?_⟩
    by_cases hed:e=d
    · subst hed; exact .inl h3
    · rcases he with he | he
      · exact .inl ((h4 e hed).trans he)
      · rcases List.mem_cons.1 he with he | he
        · exact absurd he hed
        · exact .inr he
theorem wu {pl:bG} {E:Env}:∀ {xs:List (Nat×TypeId)} {S:St} {p:Nat→Option (List AV)} {K:St→Prop},ah G p E S w→(∀ d∈xs.map (·.1),E.mu (.L d)=none)→i4 pl xs=true→wU P xs S K →
    ∃ S' p',K S'∧ah G p' E S' w∧S'.t=S.t∧(∀ d e,(d,e)∈xs→∃ cs,p' d=some cs∧0<cs.length∧ZR P e cs)∧∀ d,d ∉ xs.map (·.1)→p' d=p d
  | [],S,p,K,hM,_,_,h=>⟨S,p,h,hM,rfl,fun _ _ h=>(by cases h),fun _ _=>rfl⟩
  | (d,e)::xs,S,p,K,hM,hmu,hB,h=>by
    unfold wU at h
    obtain ⟨cs,hz,h,hinv⟩:=ue h
    replace h:=ac h; obtain ⟨hpos,h⟩:=h
    have hpos':0<cs.length:=Nat.le_of_ble_eq_true hpos
    have hd0:=hmu d (by simp)
    unfold i4 at hB
    simp only [Bool.and_eq_true,Bool.not_eq_true'] at hB
    have hnd:d ∉ xs.map (·.1):=fun hm=>by
      have:=yT hm
      rw [hB.1.2] at this
      cases this
    have hM1:ah G (fun x=>if x=d then some cs else p x) E { t:=S.t,l:=(d,cs)::S.l,o:=S.o,b:=S.b } w :=
      ⟨hM.hp,hM.os,hM.tape,hM.output,hM.size,hM.keep,hM.F0,hM.Flt,hM.Fnew,hM.own,hM.inj,fun x=>by
        show f0 _ E (if d=x then some cs else aJ S.l x) x
        by_cases hx:d=x
        · subst hx
          rw [if_pos rfl]
          exact .inr ⟨hd0,by simp,hinv⟩
        · rw [if_neg hx]
          exact (hM.loc x).congr (if_neg fun h=>hx h.symm),hM.obj,hM.old,hM.bl,hM.szs,fun x row hx=>by
        show E.mu (.L x)=none∧(if d=x then some cs else aJ S.l x)=some row
        by_cases hxd:x=d
        · subst hxd
          rw [if_pos rfl] at hx ⊢
          exact ⟨hd0,hx⟩
        · rw [if_neg hxd] at hx
          rw [if_neg (fun h=>hxd h.symm)]
          exact hM.pk x row hx,hM.ow⟩
    obtain ⟨S',p',h1,h2,h3,h4,h5⟩:=wu (xs:=xs) hM1 (fun x hx=>hmu x (by simp only [List.map_cons]; exact List.mem_cons_of_mem _ hx)) hB.2 h
    refine ⟨S',p',h1,h2,h3,fun x y hxy=>?_,fun x hx=>?_⟩
    · rcases List.mem_cons.1 hxy with hxy | hxy
      · cases hxy
        refine ⟨cs,?_,hpos',hz⟩
        rw [h5 d hnd]
        simp
      · exact h4 x y hxy
    · have hx':x≠d∧x ∉ xs.map (·.1):=⟨fun he=>hx (by rw [he]; simp),fun hm=>hx (by simp only [List.map_cons]; exact List.mem_cons_of_mem _ hm)⟩
      rw [h5 x hx'.2]
      simp [hx'.1]
theorem wv:∀ {xs:List (Nat×TypeId)} {S:St} {X:Prop},jt xs S X→∀ d∈xs.map (·.1),∃ i j,S.t[d]?=some (.ptr (.L d) i j)
  | [],_,_,_,d,hd=>by cases hd
  | (d0,e)::xs,S,X,h,d,hd=>by
    unfold jt at h
    obtain ⟨c,hc,h⟩:=b4.1 h
    split at h
    · rename_i d' i j
      obtain ⟨hb,h⟩:=ac h
      simp only [List.map_cons] at hd
      rcases List.mem_cons.1 hd with rfl | hd
      · have:=Nat.eq_of_beq_eq_true hb
        subst this
        exact ⟨i,j,hc⟩
      · exact wv h d hd
    · exact False.elim h
end
theorem AW {C:Ctx} (hmix:C.P.follows .mixedOrders=true) (hD:fK C) (hC:dJ C):ko C:=by
  intro pl id ai S K h r G E a w Q hM ht hQ
  have h':bC (re pl ai) (uX C.P (cb ai.toList) S fun S1=>uW C pl ai S1 fun S'=>jt (cb ai.toList) S' (iU pl id S' fun S''=>K .nrm S'')):=h
  obtain ⟨hB,h1⟩:=ac h'
  unfold re at hB
  simp only [Bool.and_eq_true] at hB
  obtain ⟨hal,hgd⟩:=hB
  unfold uX at h1
  obtain ⟨S1,E1,h2,hM1,ht1,hmu⟩:=rF hM ht h1
  obtain ⟨S2,p2,h3,hM2,ht2,hrow,hout⟩:=wu hM1 (fun d hd=>hmu d (.inr hd)) hal h2
  refine wpIn_region_any hmix ?_
  obtain ⟨hnd,h3⟩:=ac h3
  obtain ⟨hns,hnd⟩:=Dh hnd
  have hcl:Closed ai (Array.replicate ai.size false):=fun j hj=>by
    simp only [Array.getD_eq_getD_getElem?,Array.getElem?_replicate] at hj
    split at hj <;> simp at hj
  refine pS hnd _ _ _ _ ?_
  have h4:rR C pl ai (bR ai.toList []) ai.size (Array.replicate ai.size false) S2 (fun S'=>jt (cb ai.toList) S' (iU pl id S' fun S''=>K .nrm S''))∨yP C pl ai (fun S'=>jt (cb ai.toList) S' (iU pl id S' fun S''=>K .nrm S'')) ai.size (Array.replicate ai.size false) S2:=by
    split at h3
    · exact .inr (pR hD _ _ _ hcl h3)
    · exact .inl h3
  have hap1:xx ai:=by
    intro i i' o o' e e' d h1 h2 h3 h4 h5 h6
    rcases Nat.lt_trichotomy i i' with hlt | heq | hlt
    · exact (pT h3 h4 h5 h6 _ hal i i' hlt (by rw [Array.getElem?_toList]; exact h1) (by rw [Array.getElem?_toList]; exact h2)).elim
    · exact heq
    · exact (pT h4 h3 h6 h5 _ hal i' i hlt (by rw [Array.getElem?_toList]; exact h2) (by rw [Array.getElem?_toList]; exact h1)).elim
  have hg1:∀ (i:Nat) (o:Oper) (e:TypeId),ai[i]?=some o→o.op=.alloc e→o.guard=none:=fun i o e h1 h2=>yV h2 hgd (List.mem_of_getElem? (by rw [Array.getElem?_toList]; exact h1))
  have hQ1:∀ p S' E' a' w',(∀ d,p d≠none→d∈(cb ai.toList).map (·.1))→jt (cb ai.toList) S' (iU pl id S' fun S''=>K .nrm S'')→ah G p E' S' w'→TR E' S'.t a'→Q0 Q .normal a' w':=by
    intro p S' E' a' w' hp hk hS htr
    refine ⟨rfl,?_⟩
    have hps:=wv hk
    have hpn:p=pn:=by
      funext d
      cases hd:p d with
      | none=>rfl
      | some row =>
        exfalso
        obtain ⟨i,j,hij⟩:=hps d (hp d (by rw [hd]; exact fun h=>by cases h))
        have hlt:d<a'.tmps.size:=by rw [← htr.len]; exact (List.getElem?_eq_some_iff.1 hij).1
        have hv:=htr.val d _ _ hij (Array.getElem?_eq_getElem hlt)
        have hne:∃ y,E'.mu (.L d)=some y:=by
          generalize a'.tmps[d]=u at hv
          cases hv with
          | ptr _ _ hs0 hm=>exact ⟨_,hm⟩
        obtain ⟨y,hy⟩:=hne
        have:=(hS.pk d row hd).1
        rw [hy] at this
        cases this
    subst hpn
    obtain ⟨S2,E2,h2,hS2,ht2⟩:=j3 hS htr (kU hk).1
    exact hQ .nrm _ E2 _ _ h2 hS2 ht2
  have hA1:∀ d,p2 d≠none→d∈(cb ai.toList).map (·.1):=by
    intro d hd
    cases Classical.em (d∈(cb ai.toList).map (·.1)) with
    | inl h=>exact h
    | inr h=>exact (hd ((hout d h).trans rfl)).elim
  have hI1:Inv C.P p2 ai (Array.replicate ai.size false):=by
    intro i o e d h1 h2 h3 _
    exact hrow d e (ug h2 h3 (List.mem_of_getElem? (by rw [Array.getElem?_toList]; exact h1)))
  rcases h4 with h4 | h4
  · exact uf hD hC hns hap1 hg1 hQ1 ai.size _ p2 S2 E1 a _ hA1 hM2.drawn (by rw [ht2]; exact ht1) hI1 hcl h4
  · exact lE hC hap1 hg1 hQ1 ai.size _ p2 S2 E1 a _ hA1 hM2.drawn (by rw [ht2]; exact ht1) hI1 h4
theorem Ak {cfg:nt} (hX:GI cfg) (hN:j5 cfg.P) (hmix:cfg.P.follows .mixedOrders=true) (n:Nat):dJ (fH cfg n)∧lv (fH cfg n)∧ko (fH cfg n) :=
  EC hX.pure hX.sound hN (tY hX) (fun n h=>AW (by rw [lw]; exact hmix) (kV hX n) h) n
open Go.RowKit Go.WideShapes Go.ChangeShapes
section
variable {H:Type} {enc:TypeId×Value→H} {P:Program}
theorem vf {f:Func} {s:ChangeSpec} {apart fresh handsOn again:Bool} {W W':World} {args:Array Value} {v:Value} {ds gs:List (DataW H)} {before pa pv:List MemPlace}
    (hW:DataW.Whole enc P f.params.toList s.vars apart W args.toList ds gs before)
    (hres:∀ (b:Nat) (sp:Nat→Bool) (hd:Bool),DataW.TrodAll enc P W' b sp hd f.resultTypes.toList (v.resultList f.resultTypes.size) (s.fn H (ds++gs)).results [])
    (hargs:∀ sp:Nat→Bool,(∀ p∈before,sp p.block=true)→DataW.TrodAll enc P W' 0 sp true f.params.toList args.toList (s.fn H (ds++gs)).args pa)
    (hvars:∀ sp:Nat→Bool,(∀ p∈before,sp p.block=true)→DataW.TrodVars enc P W' sp s.vars (s.fn H (ds++gs)).vars pv)
    (hps:before=pa++pv) (hb:Below W.heap.size W W')
    (hok:∀ (j:Nat) (t:TypeId) (r:Value),f.resultTypes[j]?=some t→(v.resultList f.resultTypes.size)[j]?=some r→Value.okWide P W' .any 0 t r) :
    s.post enc P f apart fresh handsOn again W args v W':=by
  have hlt:∀ p∈before,p.block<W.heap.size:=fun p hp=>hW.lt p hp
  have hold:∀ p∈before,(fun b=>decide (b<W.heap.size)) p.block=true:=fun p hp=>by simpa using hlt p hp
  refine ⟨ds,gs,before,[],pa,pv,hW,hres _ _ _,hargs _ hold,hvars _ hold,World.keptBut_mono (fun p hp=>⟨hp,?_⟩) (hb.frame (·∈before)),fun _=>?_⟩
  · rw [hps,List.mem_append] at hp
    exact Or.inr hp
  · obtain ⟨_,_,_,_,_,hz,hn⟩:=hW
    refine ⟨hok,_,_,([]++pa)++pv,⟨[]++pa,pv,trodAll_append (hargs _ (fun _ _=>rfl)) (hres _ _ _),hvars _ (fun _ _=>rfl),rfl,?_,?_⟩,?_⟩
    · intro b off hp
      have hin:MemPlace.cell b off∈before:=by rw [hps]; simpa using hp
      rw [hb.frozen (hlt _ hin)]
      exact hz b off hin
    · intro ha
      have:=hn ha
      rw [hps] at this
      simpa using this
    · intro p hp _
      rw [hps]
      simpa using hp
end
def Fo (cfg:nt) (n f:Nat) (args:List AV) (r:AV):Prop:=po (fH cfg n) f args fun x=>x=r
theorem yW {P : Program} (h : (P.funcs.all fun fn => !(fn.name == "runtime.NumGoroutine")) = true) : j5 P := by
  intro f fn hf
  have hlt:f<P.funcs.size:=(Array.getElem?_eq_some_iff.1 hf).1
  have:=Array.all_eq_true.1 h f hlt
  rw [Array.getElem?_eq_getElem hlt] at hf
  cases hf
  simpa using this
def g4 (P:Program) (_pl:bG) (c:Code) (S:St) (K:Ex→St→Prop):Prop :=
  ∃ n e S',(∀ (r:Option Nat) (G:Gh) (E:Env) (a:Act) (w:World) (Q:Exit→Act→World→Prop),ah G pn E S w→TR E S.t a→C3 G (fun e' S''=>e'=e∧S''=S') Q→Code.roundsIn (rd r) 0 P c Q n a w)∧K e S'
def SD (P:Program) (f:Nat) (args:List AV) (o:List Ob) (K:AV→List Ob→Prop):Prop :=
  ∃ r o',nK P f args o (fun r' o''=>r'=r∧o''=o')∧K r o'
def gW (cfg:nt):Ctx:={ P:=cfg.P,pure:=cfg.pure,pol:=cfg.pol,pcall:=dL cfg.P,scall:=SD cfg.P,loop:=g4 cfg.P }
theorem nK.mono {P:Program} {f:Nat} {args:List AV} {o:List Ob} {K K':AV→List Ob→Prop} (h:nK P f args o K) (hk:∀ r o',K r o'→K' r o'):nK P f args o K' :=
  ⟨h.1,fun E w us hM hg hv=>(h.2 E w us hM hg hv).mono fun _ _ ⟨v,r,o',E',h1,h2,h3,h4⟩=>⟨v,r,o',E',hk _ _ h1,h2,h3,h4⟩⟩
theorem SD.out {P:Program} {f:Nat} {args:List AV} {o:List Ob} {K:AV→List Ob→Prop} (h:SD P f args o K):nK P f args o K:=by
  obtain ⟨r,o',h1,h2⟩:=h
  exact h1.mono fun _ _ ⟨e1,e2⟩=>by rw [e1,e2]; exact h2
theorem je (cfg:nt):dJ (gW cfg):=⟨fun _ _ _ h=>h,fun _ _ _ _ h=>h.out⟩
theorem mL (cfg:nt):fK (gW cfg) :=
  ⟨fun _ _ _ ⟨r,h1,h2⟩=>⟨r,h2,fun _ h=>⟨r,h1,h⟩⟩,fun _ _ _ _ ⟨r,o',h1,h2⟩=>⟨r,o',h2,fun _ h=>⟨r,o',h1,h⟩⟩,fun _ _ _ _ ⟨n,e,S',h1,h2⟩=>⟨e,S',h2,fun _ h=>⟨n,e,S',h1,h⟩⟩⟩
theorem jf (cfg:nt):lv (gW cfg):=by
  rintro pl c S K ⟨n,e,S',h1,h2⟩ r G E a w Q hM ht hQ
  exact wpIn_loop_rounds n (h1 r G E a w Q hM ht fun e' S'' E' a' w' ⟨e1,e2⟩ hS htr=>by subst e1 e2; exact hQ _ _ _ _ _ h2 hS htr)
theorem kW {cfg:nt} (hmix:cfg.P.follows .mixedOrders=true):ko (gW cfg):=AW hmix (mL cfg) (je cfg)
theorem g4.step {cfg:nt} (hmix:cfg.P.follows .mixedOrders=true) {pl:bG} {c:Code} {S:St} {K:Ex→St→Prop}
    (h:fZ (gW cfg) pl c S fun e S'=>match e with
      | .nrm=>g4 cfg.P pl c S' K
      | .ex i=>K (.ex i) S'
      | .ret=>K .ret S'):g4 cfg.P pl c S K:=by
  obtain ⟨e1,S1,h1,h2⟩:=qO (mL cfg) c _ h
  have run:∀ (e:Ex) (S2:St) (n:Nat),(∀ (r:Option Nat) (G:Gh) (E:Env) (a:Act) (w:World) (Q:Exit→Act→World→Prop),ah G pn E S1 w→TR E S1.t a→C3 G (fun e' S''=>e'=e∧S''=S2) Q→Exit.then (Code.roundsIn (rd r) 0 cfg.P c Q n) Q (EA e1) a w) →
      ∀ (r:Option Nat) (G:Gh) (E:Env) (a:Act) (w:World) (Q:Exit→Act→World→Prop),ah G pn E S w→TR E S.t a→C3 G (fun e' S''=>e'=e∧S''=S2) Q→Code.roundsIn (rd r) 0 cfg.P c Q (n + 1) a w:=by
    intro e S2 n hn r G E a w Q hM ht hQ
    refine mB (je cfg) (jf cfg) (kW hmix) c (h2 (fun e' S'=>e'=e1∧S'=S1) ⟨rfl,rfl⟩) r G E a w _ hM ht (fun e' S' E' a' w' hk hS htr=>?_)
    obtain ⟨rfl,rfl⟩:=hk
    exact hn r G E' a' w' Q hS htr hQ
  cases e1 with
  | nrm =>
    obtain ⟨n,e,S',hl,hk⟩:=h1
    exact ⟨n + 1,e,S',run e S' n (fun r G E a w Q hM ht hQ=>hl r G E a w Q hM ht hQ),hk⟩
  | ex i=>exact ⟨1,.ex i,S1,run _ _ 0 (fun r G E a w Q hM ht hQ=>hQ _ _ _ _ _ ⟨rfl,rfl⟩ hM ht),h1⟩
  | ret=>exact ⟨1,.ret,S1,run _ _ 0 (fun r G E a w Q hM ht hQ=>hQ _ _ _ _ _ ⟨rfl,rfl⟩ hM ht),h1⟩
theorem dL.mono {P:Program} {f:Nat} {args:List AV} {K K':AV→Prop} (h:dL P f args K) (hk:∀ r,K r→K' r):dL P f args K' :=
  let ⟨r,h1,h2⟩:=h
  ⟨r,h1,hk _ h2⟩
theorem g4.mono {P:Program} {pl:bG} {c:Code} {S:St} {K K':Ex→St→Prop} (h:g4 P pl c S K) (hk:∀ e S',K e S'→K' e S'):g4 P pl c S K' :=
  let ⟨n,e,S',h1,h2⟩:=h
  ⟨n,e,S',h1,hk _ _ h2⟩
theorem SD.mono {P:Program} {f:Nat} {args:List AV} {o:List Ob} {K K':AV→List Ob→Prop} (h:SD P f args o K) (hk:∀ r o',K r o'→K' r o'):SD P f args o K' :=
  let ⟨r,o',h1,h2⟩:=h
  ⟨r,o',h1,hk _ _ h2⟩
theorem dL.of {cfg:nt} (hN:j5 cfg.P) (hmix:cfg.P.follows .mixedOrders=true) {f:Nat} {args:List AV} {K:AV→Prop} (h:po (gW cfg) f args K):dL cfg.P f args K :=
  mC (je cfg) (jf cfg) (kW hmix) hN (fun f args K h=>by
    obtain ⟨r,h1,h2⟩:=qP (mL cfg) K h
    exact ⟨r,h1,h2 _ rfl⟩) h
theorem SD.of {cfg:nt} (hN:j5 cfg.P) (hmix:cfg.P.follows .mixedOrders=true) {f:Nat} {args:List AV} {o:List Ob} {K:AV→List Ob→Prop} (h:qy (gW cfg) f args o K):SD cfg.P f args o K:=by
  obtain ⟨r,o',h1,h2⟩:=tV (mL cfg) K h
  exact ⟨r,o',pK (je cfg) (jf cfg) (kW hmix) hN (h2 _ ⟨rfl,rfl⟩),h1⟩
theorem dL.ofN {cfg:nt} (hX:GI cfg) (hN:j5 cfg.P) (hmix:cfg.P.follows .mixedOrders=true) {n f:Nat} {args:List AV} {r:AV} (h:Fo cfg n f args r):dL cfg.P f args fun x=>x=r:=by
  obtain ⟨h1,h2,h3⟩:=Ak hX hN hmix n
  have hP:=lw cfg n
  have:=mC h1 h2 h3 (by rw [hP]; exact hN) (tY hX n) h
  rw [hP] at this
  exact this
theorem Al {P:Program} {f:Nat} {args:List AV} (h:dL P f args fun x=>x=.v (.bool true)) (F:Nat→Prop) (w:World) (us:Array Value) (hF:∀ b,F b→b<w.heap.size) (hg:zN ⟨F,fun _=>none,w.heap⟩) (hv:bY ⟨F,fun _=>none,w.heap⟩ args us.toList) :
    Calls P f us w fun e w'=>e=.returned (.bool true)∧Go.RowKit.Below w.heap.size w w':=by
  obtain ⟨r,⟨_,h4⟩,rfl⟩:=h
  refine (h4 F w us hF hg hv).mono ?_
  rintro e w' ⟨v,F',rfl,hv,hb,_⟩
  exact ⟨by rw [hv.vI.1],hb⟩
open Go.ChangeShapes Go.WideShapes
def xy (P:Program):List Field→Nat→Bool
  | [],_=>true
  | f::fs,k=>Nat.beq f.offset k&&xy P fs (k + P.cellsOf f.type)
def rG (P:Program):Nat→TypeId→Bool
  | 0,_=>false
  | n + 1,t =>
    match P.underlying t with
    | some .bool | some (.int _) | some .string=>true
    | some (.slice e)=>Nat.blt 0 (P.cellsOf e)&&rG P n e
    | some (.struct fs)=>xy P fs.toList 0&&Nat.beq (fs.toList.foldl (fun s f=>s + P.cellsOf f.type) 0) (P.cellsOf t)&&fs.toList.all fun f=>rG P n f.type
    | _=>false
def de {H:Type} (P:Program):Nat→TypeId→DataW H→Bool
  | 0,_,_=>false
  | n + 1,t,d =>
    match P.underlying t,d with
    | some .bool,.lit (.bool _)=>true
    | some (.int k),.lit (.int k' m)=>decide (k'=k)&&(Lit.int k m).wf
    | some .string,.lit (.string bs)=>decide (bs.length≤maxLen)
    | some (.slice _),.nil=>true
    | some (.slice e),.slice xs _=>decide (xs.length≤maxLen)&&xs.all (de P n e)
    | some (.struct fs),.agg ds=>Nat.beq ds.length fs.size&&(fs.toList.zip ds).all fun x=>de P n x.1.type x.2
    | _,_=>false
def gw {H:Type} (P:Program):Nat→TypeId→DataW H→List AV
  | 0,_,_=>[]
  | n + 1,t,d =>
    match P.underlying t,d with
    | some .bool,.lit (.bool b)=>[.v (.bool b)]
    | some (.int k),.lit (.int _ m)=>[.v (.int k m)]
    | some .string,.lit (.string bs)=>[.v (.string ⟨bs.toArray⟩)]
    | some (.slice _),.nil=>[.nilsl]
    | some (.slice e),.slice xs _=>[.sl (xs.map (gw P n e))]
    | some (.struct fs),.agg ds=>(fs.toList.zip ds).flatMap fun x=>gw P n x.1.type x.2
    | _,_=>[]
def r4 (w:World):Env:=⟨fun b=>b<w.heap.size,fun _=>none,w.heap⟩
theorem uh {α β:Type} {f:α→Option β}:∀ {xs:List α} {ys:List β},xs.mapM f=some ys→xs.length=ys.length∧∀ (i:Nat) (x:α),xs[i]?=some x→∃ y,ys[i]?=some y∧f x=some y
  | [],ys,h=>by
    simp at h
    subst h
    exact ⟨rfl,fun i x h=>by simp at h⟩
  | x::xs,ys,h=>by
    rw [List.mapM_cons] at h
    simp only [Option.pure_def,Option.bind_eq_bind,Option.bind_eq_some_iff,Option.some.injEq] at h
    obtain ⟨y,hy,ys',hys,rfl⟩:=h
    obtain ⟨h1,h2⟩:=uh hys
    refine ⟨by simp [h1],fun i z hz=>?_⟩
    cases i with
    | zero =>
      simp only [List.getElem?_cons_zero,Option.some.injEq] at hz
      subst hz
      exact ⟨y,rfl,hy⟩
    | succ i=>exact h2 i z (by simpa using hz)
theorem oS {w:World} {a:Addr} {v:Value} (h:w.cell? a=some v):a.spot=none∧a.block<w.heap.size∧dw w.heap a.block a.off=some v:=by
  unfold World.cell? at h
  split at h
  · rename_i c t fr hb
    split at h
    · cases h
    · rename_i hs
      refine ⟨by simpa using hs,(Array.getElem?_eq_some_iff.1 hb).1,?_⟩
      unfold dw
      rw [hb]
      exact h
  · cases h
theorem ui (P:Program):∀ (fs:List Field) (k:Nat),fs.foldl (fun s f=>s + P.cellsOf f.type) k=k + fs.foldl (fun s f=>s + P.cellsOf f.type) 0
  | [],k=>by simp
  | f::fs,k=>by
    rw [List.foldl_cons,List.foldl_cons,ui P fs (k + _),ui P fs (0 + _)]
    omega
theorem uj {α:Type} {sz:Nat}:∀ {rows:List (List α)} {m:Nat} {c:α},0<sz→(∀ r∈rows,r.length=sz)→rows.flatten[m]?=some c→∃ r,rows[m / sz]?=some r∧r[m % sz]?=some c
  | [],m,c,_,_,h=>by simp at h
  | r::rs,m,c,hs,hr,h=>by
    have h0:=hr r List.mem_cons_self
    rw [List.flatten_cons] at h
    by_cases hm:m<sz
    · rw [List.getElem?_append_left (by omega)] at h
      refine ⟨r,?_,?_⟩
      · rw [Nat.div_eq_of_lt hm]; rfl
      · rw [Nat.mod_eq_of_lt hm]; exact h
    · rw [List.getElem?_append_right (by omega),h0] at h
      obtain ⟨r',h1,h2⟩:=uj (rows:=rs) hs (fun r h=>hr r (List.mem_cons_of_mem _ h)) h
      have e1:m / sz=(m - sz) / sz + 1:=by
        rw [← Nat.add_div_right _ hs]
        congr 1
        omega
      have e2:m % sz=(m - sz) % sz:=by
        rw [Nat.mod_eq_sub_mod (by omega)]
      rw [e1,e2,List.getElem?_cons_succ]
      exact ⟨r',h1,h2⟩
section
variable {H:Type} {enc:TypeId×Value→H} {P:Program} {w:World} {sp:Nat→Bool}
theorem EG:(r4 w).fz=r4 w:=rfl
theorem ww {n:Nat} {base:Nat} {fuel:Nat} (ih:∀ {fuel:Nat} {t:TypeId} {cs:List Value} {d:DataW H} {ps:List MemPlace},rG P n t=true→cs.length=P.cellsOf t→DataW.trod enc P w base sp true fuel t cs=some (d,ps)→de P n t d=true∧bY (r4 w) (gw P n t d) cs) :
    ∀ (fs:List Field) (k:Nat) (cs:List Value) (xs:List (DataW H×List MemPlace)),xy P fs k=true→k + fs.foldl (fun s f=>s + P.cellsOf f.type) 0=cs.length→(fs.all fun f=>rG P n f.type)=true →
      fs.mapM (fun f=>DataW.trod enc P w base sp true fuel f.type ((cs.drop f.offset).take (P.cellsOf f.type)))=some xs →
      ((fs.zip (xs.map (·.1))).all fun x=>de P n x.1.type x.2)=true∧bY (r4 w) ((fs.zip (xs.map (·.1))).flatMap fun x=>gw P n x.1.type x.2) (cs.drop k)
  | [],k,cs,xs,_,hl,_,h=>by
    simp at h
    subst h
    simp at hl
    refine ⟨rfl,?_⟩
    rw [List.drop_eq_nil_of_le (by omega)]
    exact .nil _
  | f::fs,k,cs,xs,hc,hl,hg,h=>by
    rw [List.mapM_cons] at h
    simp only [Option.pure_def,Option.bind_eq_bind,Option.bind_eq_some_iff,Option.some.injEq] at h
    obtain ⟨y,hy,ys,hys,rfl⟩:=h
    unfold xy at hc
    simp only [Bool.and_eq_true] at hc
    have hoff:=Nat.eq_of_beq_eq_true hc.1
    simp only [List.all_cons,Bool.and_eq_true] at hg
    rw [List.foldl_cons,ui] at hl
    rw [hoff] at hy
    have hlen:((cs.drop k).take (P.cellsOf f.type)).length=P.cellsOf f.type:=by simp; omega
    obtain ⟨h1,h2⟩:=ih (ps:=y.2) hg.1 hlen hy
    obtain ⟨h3,h4⟩:=ww ih fs (k + P.cellsOf f.type) cs ys hc.2 (by omega) hg.2 hys
    refine ⟨by simp [h1,h3],?_⟩
    show bY _ (gw P n f.type y.1++_) _
    have:=h2.append h4
    rw [← List.drop_drop,List.take_append_drop] at this
    exact this
theorem sr {base:Nat}:∀ (n:Nat) {fuel:Nat} {t:TypeId} {cs:List Value} {d:DataW H} {ps:List MemPlace},rG P n t=true→cs.length=P.cellsOf t→DataW.trod enc P w base sp true fuel t cs=some (d,ps)→de P n t d=true∧bY (r4 w) (gw P n t d) cs
  | 0,_,_,_,_,_,h,_,_=>by cases h
  | n + 1,0,_,_,_,_,_,_,h=>by simp [DataW.trod] at h
  | n + 1,fuel + 1,t,cs,d,ps,hg,hlen,h=>by
    have one:∀ {c:AV} {u:Value},VR (r4 w) c u→bY (r4 w) [c] [u]:=fun h=>.cons h (.nil _)
    unfold rG at hg
    unfold DataW.trod at h
    split at hg
    · rename_i hu
      rw [hu] at h
      split at h <;> first | (simp_all; done) | skip
      rename_i b _ _
      simp only [Option.some.injEq,Prod.mk.injEq] at h
      obtain ⟨rfl,_⟩:=h
      refine ⟨by unfold de; rw [hu],?_⟩
      unfold gw
      rw [hu]
      exact one (.v _ _ rfl)
    · rename_i k hu
      rw [hu] at h
      split at h <;> first | (simp_all; done) | skip
      rename_i k' kk m e2
      cases e2
      split at h
      · rename_i hk
        simp only [Option.some.injEq,Prod.mk.injEq] at h
        obtain ⟨rfl,_⟩:=h
        obtain ⟨hkk,hwf⟩:=hk
        subst hkk
        refine ⟨by unfold de; rw [hu]; simp [hwf],?_⟩
        unfold gw
        rw [hu]
        exact one (.v _ _ rfl)
      · cases h
    · rename_i hu
      rw [hu] at h
      split at h <;> first | (simp_all; done) | skip
      rename_i s e2
      split at h
      · rename_i hs
        simp only [Option.some.injEq,Prod.mk.injEq] at h
        obtain ⟨rfl,_⟩:=h
        refine ⟨by unfold de; rw [hu]; simpa using hs,?_⟩
        unfold gw
        rw [hu]
        have:(⟨s.data.toList.toArray⟩:ByteArray)=s:=by cases s; simp
        dsimp only
        rw [this]
        exact one (.v _ _ rfl)
      · cases h
    · rename_i e hu
      simp only [Bool.and_eq_true] at hg
      have hsz:0<P.cellsOf e:=Nat.le_of_ble_eq_true hg.1
      rw [hu] at h
      split at h <;> first | (simp_all; done) | skip
      · simp only [Option.some.injEq,Prod.mk.injEq] at h
        obtain ⟨rfl,_⟩:=h
        refine ⟨by unfold de; rw [hu],?_⟩
        unfold gw
        rw [hu]
        exact one (.nilsl _)
      · rename_i e0 a len cap e2
        cases e2
        dsimp only at h
        split at h
        · rename_i hb
          simp only [Option.bind_eq_some_iff,Option.map_eq_some_iff,Prod.mk.injEq] at h
          obtain ⟨elems,he,rest,_,rfl,_⟩:=h
          obtain ⟨hl1,hget⟩:=uh he
          simp only [List.length_range] at hl1
          have hel:∀ (i:Nat) (y:DataW H×List MemPlace),elems[i]?=some y→∃ cs',(w.cells? base (a.add (i * P.cellsOf e)) (P.cellsOf e))=some cs'∧de P n e y.1=true∧bY (r4 w) (gw P n e y.1) cs':=by
            intro i y hy
            have hi:i<len:=by rw [hl1]; exact (List.getElem?_eq_some_iff.1 hy).1
            obtain ⟨y',hy',hf⟩:=hget i i (by simp [hi])
            rw [hy] at hy'
            cases hy'
            simp only [Option.bind_eq_some_iff] at hf
            obtain ⟨cs',hc,ht⟩:=hf
            have hcl:=(World.cells?_some hc).2.1
            obtain ⟨h1,h2⟩:=sr n (ps:=y.2) hg.2 hcl ht
            exact ⟨cs',hc,h1,h2⟩
          refine ⟨?_,?_⟩
          · unfold de
            rw [hu]
            simp only [Bool.and_eq_true,decide_eq_true_eq,List.length_map,List.all_eq_true,List.mem_map]
            refine ⟨by omega,?_⟩
            rintro x ⟨y,hy,rfl⟩
            obtain ⟨i,hi,hiy⟩:=List.getElem_of_mem hy
            obtain ⟨cs',_,h1,_⟩:=hel i y (by rw [List.getElem?_eq_getElem hi,hiy])
            exact h1
          · unfold gw
            rw [hu]
            refine one ?_
            cases hlen0:len with
            | zero =>
              have:elems=[]:=List.eq_nil_of_length_eq_zero (by omega)
              rw [this]
              exact .sle _ a cap
            | succ len' =>
              have hrow:∀ (i:Nat) (y:DataW H×List MemPlace),elems[i]?=some y→∃ cs',cs'.length=P.cellsOf e∧bY (r4 w) (gw P n e y.1) cs'∧∀ j,j<P.cellsOf e→w.cell? ((a.add (i * P.cellsOf e)).add j)=cs'[j]?:=by
                intro i y hy
                obtain ⟨cs',hc,_,h2⟩:=hel i y hy
                obtain ⟨_,h3,h4⟩:=World.cells?_some hc
                exact ⟨cs',h3,h2,h4⟩
              obtain ⟨y0,hy0⟩:∃ y0,elems[0]?=some y0:=⟨elems[0]'(by omega),List.getElem?_eq_getElem (by omega)⟩
              obtain ⟨c0,hc0,_,hat0⟩:=hrow 0 y0 hy0
              have h00:=hat0 0 hsz
              simp only [Nat.zero_mul,Addr.add,if_pos] at h00
              have hv0:c0[0]?=some (c0[0]'(by omega)):=List.getElem?_eq_getElem (by omega)
              rw [hv0] at h00
              obtain ⟨hspot,hblk,_⟩:=oS h00
              obtain ⟨b,off,spot⟩:=a
              simp only at hspot hblk
              subst hspot
              have hadd:∀ x,(⟨b,off,none⟩:Addr).add x=⟨b,off + x,none⟩:=fun x=>by unfold Addr.add; split <;> simp_all
              have hrl:∀ r∈(elems.map (·.1)).map (gw P n e),r.length=P.cellsOf e:=by
                intro r hr
                simp only [List.map_map,List.mem_map] at hr
                obtain ⟨y,hy,rfl⟩:=hr
                obtain ⟨i,hi,hiy⟩:=List.getElem_of_mem hy
                obtain ⟨cs',h1,h2,_⟩:=hrow i y (by rw [List.getElem?_eq_getElem hi,hiy])
                exact h2.1.trans h1
              have hfl:((elems.map (·.1)).map (gw P n e)).flatten.length=len * P.cellsOf e:=by
                have:∀ (rows:List (List AV)),(∀ r∈rows,r.length=P.cellsOf e)→rows.flatten.length=rows.length * P.cellsOf e:=by
                  intro rows
                  induction rows with
                  | nil=>intro _; simp
                  | cons r rs ih=>intro hr; rw [List.flatten_cons,List.length_append,ih (fun r h=>hr r (List.mem_cons_of_mem _ h)),hr r List.mem_cons_self,List.length_cons,Nat.succ_mul]; omega
                rw [this _ hrl]
                simp [hl1]
              have hcell:∀ m,m<len * P.cellsOf e→∃ u,dw w.heap b (off + m)=some u:=by
                intro m hm
                have hi:m / P.cellsOf e<len:=(Nat.div_lt_iff_lt_mul hsz).2 hm
                have hj:m % P.cellsOf e<P.cellsOf e:=Nat.mod_lt _ hsz
                obtain ⟨y,hy⟩:∃ y,elems[m / P.cellsOf e]?=some y:=⟨elems[m / P.cellsOf e]'(by omega),List.getElem?_eq_getElem (by omega)⟩
                obtain ⟨cs',h1,h2,h3⟩:=hrow _ y hy
                have h4:=h3 _ hj
                have hv:cs'[m % P.cellsOf e]?=some (cs'[m % P.cellsOf e]'(by omega)):=List.getElem?_eq_getElem (by omega)
                rw [hv,hadd] at h4
                have hadd2:∀ x y,(⟨b,x,none⟩:Addr).add y=⟨b,x + y,none⟩:=fun x y=>by unfold Addr.add; split <;> simp_all
                rw [hadd2] at h4
                obtain ⟨_,_,h5⟩:=oS h4
                have ee:off + m / P.cellsOf e * P.cellsOf e + m % P.cellsOf e=off + m:=by
                  have:=Nat.div_add_mod m (P.cellsOf e)
                  rw [Nat.mul_comm] at this
                  omega
                simp only [ee] at h5
                exact ⟨_,h5⟩
              have hus:=VR.sl (E:=r4 w) (rows:=(elems.map (·.1)).map (gw P n e)) (sz:=P.cellsOf e) (b:=b) (o:=off) (cap:=cap)
                ((List.range (len * P.cellsOf e)).map fun m=>(dw w.heap b (off + m)).getD undef) hsz hrl (by rw [hfl]; simp) (fun m c u h1 h2=>?_) hblk (fun m u hu'=>?_) (by simp; omega)
              · have e1:((elems.map (·.1)).map (gw P n e)).length=len' + 1:=by simp; omega
                rw [e1] at hus
                exact hus
              · rw [EG]
                obtain ⟨r,h3,h4⟩:=uj hsz hrl h1
                rw [List.getElem?_map,List.getElem?_map,Option.map_eq_some_iff] at h3
                obtain ⟨x,h3,rfl⟩:=h3
                rw [Option.map_eq_some_iff] at h3
                obtain ⟨y,hy,rfl⟩:=h3
                obtain ⟨cs',h5,h6,h7⟩:=hrow _ y hy
                obtain ⟨u',hu1,hu2⟩:=h6.get h4
                have hj:m % P.cellsOf e<P.cellsOf e:=Nat.mod_lt _ hsz
                have h8:=h7 _ hj
                have hadd2:∀ x y,(⟨b,x,none⟩:Addr).add y=⟨b,x + y,none⟩:=fun x y=>by unfold Addr.add; split <;> simp_all
                rw [hu1,hadd,hadd2] at h8
                obtain ⟨_,_,h9⟩:=oS h8
                have ee:off + m / P.cellsOf e * P.cellsOf e + m % P.cellsOf e=off + m:=by
                  have:=Nat.div_add_mod m (P.cellsOf e)
                  rw [Nat.mul_comm] at this
                  omega
                simp only [ee] at h9
                have hm:m<len * P.cellsOf e:=by rw [← hfl]; exact (List.getElem?_eq_some_iff.1 h1).1
                rw [List.getElem?_map,List.getElem?_range hm] at h2
                simp only [Option.map_some,h9,Option.getD_some,Option.some.injEq] at h2
                subst h2
                exact hu2
              · have hm:m<len * P.cellsOf e:=by
                  have:=(List.getElem?_eq_some_iff.1 hu').1
                  simpa using this
                rw [List.getElem?_map,List.getElem?_range hm] at hu'
                obtain ⟨u',h5⟩:=hcell m hm
                simp only [Option.map_some,h5,Option.getD_some,Option.some.injEq] at hu'
                subst hu'
                exact h5
        · cases h
    · rename_i fs hu
      simp only [Bool.and_eq_true] at hg
      rw [hu] at h
      split at h <;> first | (simp_all; done) | skip
      rename_i fs0 e1
      cases e1
      rw [if_pos hlen] at h
      simp only [Option.map_eq_some_iff,Prod.mk.injEq] at h
      obtain ⟨xs,hx,rfl,_⟩:=h
      have hsum:=Nat.eq_of_beq_eq_true hg.1.2
      obtain ⟨h1,h2⟩:=ww (n:=n) (base:=base) (fuel:=fuel) (fun hg hl ht=>sr n hg hl ht) fs.toList 0 _ xs hg.1.1 (by omega) hg.2 hx
      obtain ⟨hl1,_⟩:=uh hx
      refine ⟨?_,?_⟩
      · unfold de
        rw [hu]
        simp only [Bool.and_eq_true]
        exact ⟨by simp at hl1; simp [hl1],h1⟩
      · unfold gw
        rw [hu]
        simpa using h2
    · cases hg
end
def rH {H:Type} (P:Program) (n:Nat) (t:TypeId) (d:DataW H):AV :=
  match P.underlying t with
  | some (.struct _)=>.agg (gw P n t d)
  | _=>(gw P n t d).headD .bad
def mM (P:Program) (t:TypeId):Bool :=
  match P.underlying t with
  | some (.struct _)=>true
  | _=>false
def AX (P:Program) (n:Nat) (t:TypeId):Bool:=rG P n t&&(mM P t||Nat.beq (P.cellsOf t) 1)
section
variable {H:Type} {enc:TypeId×Value→H} {P:Program} {W W':World}
theorem F3 {n:Nat} {t:TypeId} {v:Value} {d:DataW H} {p:List MemPlace} {base:Nat} (hg:AX P n t=true) (hv:Value.okWide P W .any base t v) (h:DataW.Trod enc P W 0 (fun _=>true) true t v d p) :
    de P n t d=true∧VR (r4 W) (rH P n t d) v:=by
  unfold AX at hg
  simp only [Bool.and_eq_true,Bool.or_eq_true] at hg
  obtain ⟨fuel,hf⟩:=h
  cases hs:mM P t with
  | true =>
    unfold mM at hs
    split at hs
    · rename_i fs hu
      unfold Value.okWide at hv
      rw [hu] at hv
      obtain ⟨cs,rfl,hsz,_⟩:=hv
      have hc:(Value.agg cs).cells.toList=cs.toList:=rfl
      rw [hc] at hf
      obtain ⟨h1,h2⟩:=sr (base:=0) n (ps:=p) hg.1 (by simpa using hsz) hf
      refine ⟨h1,?_⟩
      unfold rH
      rw [hu]
      exact h2.aggV
    · cases hs
  | false =>
    have hc1:P.cellsOf t=1:=by
      rcases hg.2 with h | h
      · rw [hs] at h; cases h
      · exact Nat.eq_of_beq_eq_true h
    have hone:v.cells.toList=[v]:=by
      have hns:∀ fs,P.underlying t≠some (.struct fs):=fun fs he=>by unfold mM at hs; rw [he] at hs; cases hs
      have hgt:=hg.1
      cases v with
      | agg cs =>
        exfalso
        cases n with
        | zero=>cases hgt
        | succ n =>
          unfold rG at hgt
          unfold Value.okWide at hv
          split at hgt
          · rename_i hu; rw [hu] at hv; simp [Cell.okWide,Cell.ok,hu] at hv
          · rename_i k hu; rw [hu] at hv; simp [Cell.okWide,Cell.ok,hu] at hv
          · rename_i hu; rw [hu] at hv; simp [Cell.okWide,Cell.ok,hu] at hv
          · rename_i e hu; rw [hu] at hv; simp [Cell.okWide,Cell.ok,hu] at hv
          · rename_i fs hu; exact hns fs hu
          · cases hgt
      | _=>rfl
    rw [hone] at hf
    obtain ⟨h1,h2⟩:=sr (base:=0) n (ps:=p) hg.1 (by rw [hc1]; rfl) hf
    refine ⟨h1,?_⟩
    have hav:rH P n t d=(gw P n t d).headD .bad:=by
      unfold rH
      unfold mM at hs
      split at hs
      · cases hs
      · rfl
    rw [hav]
    cases he:gw P n t d with
    | nil=>exact .bad _ _
    | cons c cs =>
      rw [he] at h2
      exact h2.2 0 c v rfl rfl
theorem AY {n base:Nat}:∀ {ts:List TypeId} {vs:List Value} {ds:List (DataW H)} {p:List MemPlace},(ts.all (AX P n))=true→(∀ (j:Nat) (t:TypeId) (v:Value),ts[j]?=some t→vs[j]?=some v→Value.okWide P W .any base t v) →
    DataW.TrodAll enc P W 0 (fun _=>true) true ts vs ds p→ds.length=ts.length∧((ts.zip ds).all fun x=>de P n x.1 x.2)=true∧bY (r4 W) ((ts.zip ds).map fun x=>rH P n x.1 x.2) vs
  | [],[],[],_,_,_,_=>⟨rfl,rfl,.nil _⟩
  | t::ts,v::vs,d::ds,_,hg,hv,h=>by
    obtain ⟨p,q,h1,h2,_⟩:=h
    simp only [List.all_cons,Bool.and_eq_true] at hg
    obtain ⟨h3,h4⟩:=F3 hg.1 (hv 0 t v rfl rfl) h1
    obtain ⟨h5,h6,h7⟩:=AY hg.2 (fun j t v e1 e2=>hv (j + 1) t v (by simpa using e1) (by simpa using e2)) h2
    exact ⟨by simp [h5],by simp [h3,h6],.cons h4 h7⟩
  | [],[],_::_,_,_,_,h=>by cases h
  | [],_::_,_,_,_,_,h=>by cases h
  | _::_,[],_,_,_,_,h=>by cases h
  | _::_,_::_,[],_,_,_,h=>by cases h
theorem wx {sp:Nat→Bool} (hl:laidOutB P=true):∀ {ts:List TypeId} {vs:List Value} {ds:List (DataW H)} {p:List MemPlace},(ts.all fun t=>P.readableRec t&&decide (t<P.types.size))=true →
    DataW.TrodAll enc P W 0 (fun _=>true) true ts vs ds p→Below W.heap.size W W'→(∀ x∈p,x.block<W.heap.size)→(∀ x∈p,sp x.block=true)→DataW.TrodAll enc P W' 0 sp true ts vs ds p
  | [],[],[],_,_,h,_,_,_=>h
  | t::ts,v::vs,d::ds,_,hg,h,hb,hlt,hsp=>by
    obtain ⟨p,q,h1,h2,rfl⟩:=h
    simp only [List.all_cons,Bool.and_eq_true,decide_eq_true_eq] at hg
    refine ⟨p,q,Go.WideElems.Trod_stays hl hg.1.1 hg.1.2 h1 (fun x hx=>hb.same (hlt x (List.mem_append.2 (.inl hx)))) (fun x hx=>hsp x (List.mem_append.2 (.inl hx))),?_,rfl⟩
    exact wx hl hg.2 h2 hb (fun x hx=>hlt x (List.mem_append.2 (.inr hx))) (fun x hx=>hsp x (List.mem_append.2 (.inr hx)))
  | [],[],_::_,_,_,h,_,_,_=>by cases h
  | [],_::_,_,_,_,h,_,_,_=>by cases h
  | _::_,[],_,_,_,h,_,_,_=>by cases h
  | _::_,_::_,[],_,_,h,_,_,_=>by cases h
end
end A
end Go.Proofs.Ytaiokpalfdbnnaa
