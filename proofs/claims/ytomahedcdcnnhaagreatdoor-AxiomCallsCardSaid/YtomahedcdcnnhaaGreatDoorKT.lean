/- The evaluator along trees; contracts out of it. Nothing is claimed here of the program. -/
import Derived.Test.YtomahedcdcnnhaaGreatDoorKB
namespace Go.Proofs.YtomahedcdcnnhaaGreatDoor
namespace A
open Go
open Go.RowKit (Below)
inductive Tr (ρ:Type):Prop→Type 1 where
  | ret {Γ:Prop} (x:ρ):Tr ρ Γ
  | rp {Γ:Prop} (x:ρ) (Q:Prop) (h:Γ→Q):Tr ρ Γ
  | rq {Γ:Prop} (x:ρ):Tr ρ Γ
  | bad {Γ:Prop}:Tr ρ Γ
  | op {Γ:Prop} (k:Nat) (A:dx) (r:Tr ρ Γ):Tr ρ Γ
  | o {Γ:Prop} (P:Prop) (h:Γ→P) (r:Tr ρ Γ):Tr ρ Γ
  | rg {Γ:Prop} (i:Nat) (r:Tr ρ Γ):Tr ρ Γ
  | ite {Γ:Prop} (k:Nat) (b:Bool) (t:Tr ρ (Γ∧b=true)) (e:Tr ρ (Γ∧b=false)):Tr ρ Γ
  | bind {Γ:Prop} (k:Nat) {α:Type} (m:Option α) (f:(x:α)→Tr ρ (Γ∧m=some x)):Tr ρ Γ
  | alt {Γ:Prop} (k:Nat) {α β:Type} (y:α⊕β) (f:(x:α)→Tr ρ (Γ∧y=.inl x)) (g:(x:β)→Tr ρ (Γ∧y=.inr x)):Tr ρ Γ
  | opt {Γ:Prop} (k:Nat) {α:Type} (y:Option α) (a:Tr ρ (Γ∧y=none)) (f:(x:α)→Tr ρ (Γ∧y=some x)):Tr ρ Γ
  | dem {Γ:Prop} (k:Nat) (P:Prop) (a:Tr ρ (Γ∧P)) (r:Tr ρ Γ):Tr ρ Γ
  | lp {Γ:Prop} (k:Nat) (W:Wk) (L:Le) (e:Ex) (S:St) (r:Tr ρ Γ):Tr ρ Γ
  | un {Γ:Prop} (k:Nat) (r:Tr ρ Γ):Tr ρ Γ
  | wk {Γ:Prop} (W:Wk) (L:Le) (r:Tr ρ Γ):Tr ρ Γ
  | wr {Γ:Prop} (L:Le) (r:Tr ρ Γ):Tr ρ Γ
noncomputable def Tr.eval {ρ:Type}:{Γ:Prop}→Tr ρ Γ→Option ρ
  | _,.ret x=>some x
  | _,.rp x _ _=>some x
  | _,.rq x=>some x
  | _,.bad=>none
  | _,.op _ _ r=>r.eval
  | _,.o _ _ r=>r.eval
  | _,.rg _ r=>r.eval
  | _,.ite _ b t e=>if b=true then t.eval else e.eval
  | _,.bind _ m f=>m.bind fun x=>(f x).eval
  | _,.alt _ y f g=>Sum.elim (fun x=>(f x).eval) (fun x=>(g x).eval) y
  | _,.opt _ y a f=>hJ y a.eval fun x=>(f x).eval
  | _,.dem _ P a r=>r.eval.bind fun x=>@_root_.ite _ (P→a.eval=some x) (Classical.propDecidable _) (some x) none
  | _,.lp _ _ _ _ _ r=>r.eval
  | _,.un _ r=>r.eval
  | _,.wk _ _ r=>r.eval
  | _,.wr _ r=>r.eval
def Tr.prop {ρ:Type} (r:ρ) (Q:ρ→Prop):{Γ:Prop}→Tr ρ Γ→Prop
  | _,.ret x=>x=r∧Q x
  | _,.rp x Q' _=>x=r∧Q'
  | _,.rq x=>x=r∧true=true
  | _,.bad=>False
  | _,.op _ _ t=>t.prop r Q
  | _,.o P _ t=>P∧t.prop r Q
  | _,.rg _ t=>t.prop r Q
  | _,.ite _ b t e=>(b=true∧t.prop r Q)∨(b=false∧e.prop r Q)
  | _,.bind _ m f=>∃ x,m=some x∧(f x).prop r Q
  | _,.alt _ y f g=>(∃ x,y=.inl x∧(f x).prop r Q)∨(∃ x,y=.inr x∧(g x).prop r Q)
  | _,.opt _ y a f=>(y=none∧a.prop r Q)∨(∃ x,y=some x∧(f x).prop r Q)
  | _,.dem _ P a t=>(P→a.prop r Q)∧t.prop r Q
  | _,.lp _ _ _ _ _ t=>t.prop r Q
  | _,.un _ t=>t.prop r Q
  | _,.wk _ _ t=>t.prop r Q
  | _,.wr _ t=>t.prop r Q
theorem Tr.holds {ρ:Type} {r:ρ} {Q:ρ→Prop} (hQ:∀ x,Q x) {Γ:Prop} (T:Tr ρ Γ):Γ→T.eval=some r→T.prop r Q:=by
  induction T with
  | ret x=>exact fun _ h=>⟨M6 h,hQ x⟩
  | rp x Q' h'=>exact fun hg h=>⟨M6 h,h' hg⟩
  | rq x=>exact fun _ h=>⟨M6 h,rfl⟩
  | bad=>exact fun _ h=>by cases h
  | o P h' t ih=>exact fun hg h=>⟨h' hg,ih hg h⟩
  | op _ _ t ih | rg _ t ih | lp _ _ _ _ _ t ih | un _ t ih | wk _ _ t ih | wr _ t ih=>exact fun hg h=>ih hg h
  | ite k b t e iht ihe =>
    intro hg h
    rcases GQ (b:=b) h with ⟨hb,h⟩ | ⟨hb,h⟩
    · exact .inl ⟨hb,iht ⟨hg,hb⟩ h⟩
    · exact .inr ⟨hb,ihe ⟨hg,hb⟩ h⟩
  | bind k m f ih =>
    intro hg h
    obtain ⟨x,hx,h⟩:=B3 (x:=m) h
    exact ⟨x,hx,ih x ⟨hg,hx⟩ h⟩
  | alt k y f g ihf ihg =>
    intro hg h
    cases y with
    | inl x=>exact .inl ⟨x,rfl,ihf x ⟨hg,rfl⟩ h⟩
    | inr x=>exact .inr ⟨x,rfl,ihg x ⟨hg,rfl⟩ h⟩
  | opt k y a f iha ihf =>
    intro hg h
    rcases II (x:=y) h with ⟨hy,h⟩ | ⟨z,hz,h⟩
    · exact .inl ⟨hy,iha ⟨hg,hy⟩ h⟩
    · exact .inr ⟨z,hz,ihf z ⟨hg,hz⟩ h⟩
  | dem k P a t iha iht =>
    intro hg h
    obtain ⟨x,hx,h⟩:=B3 (x:=t.eval) h
    split at h
    · rename_i hp
      have:=M6 h
      subst this
      exact ⟨fun p=>iha ⟨hg,p⟩ (hp p),iht hg hx⟩
    · cases h
def KI (f:AV→AV→Bool):List AV→List AV→Bool
  | [],[]=>true
  | x::xs,y::ys=>f x y&&KI f xs ys
  | _,_=>false
def M_ (f:AV→AV→Bool):List (List AV)→List (List AV)→Bool
  | [],[]=>true
  | x::xs,y::ys=>KI f x y&&M_ f xs ys
  | _,_=>false
def LJ:List (List AV)→Bool
  | []=>true
  | _=>false
def leB:Nat→AV→AV→Bool
  | 0,_,_=>false
  | n + 1,a,b=>match a,b with
    | .v (.bool x),.v (.bool y)=>x==y
    | .v (.int k x),.v (.int l y)=>decide (k=l)&&(x==y)
    | .v (.string x),.v (.string y)=>x.data.toList==y.data.toList
    | .nilp,.nilp=>true
    | .nilsl,.sl r=>LJ r
    | .esl,.sl r=>LJ r
    | .sl r,.sl s=>M_ (leB n) r s
    | .agg r,.agg s=>KI (leB n) r s
    | .tup r,.tup s=>KI (leB n) r s
    | .fptr r i,.fptr s j=>Nat.beq i j&&KI (leB n) r s
    | _,_=>false
theorem yg {f:AV→AV→Bool} (hf:∀ a b,f a b=true→b9 a b):∀ {r s:List AV},KI f r s=true→fj r s
  | [],[],_=>.nil
  | _::_,_::_,h=>by
    unfold KI at h
    rw [Bool.and_eq_true] at h
    exact .cons (hf _ _ h.1) (yg hf h.2)
  | [],_::_,h=>by cases h
  | _::_,[],h=>by cases h
theorem HT {f:AV→AV→Bool} (hf:∀ a b,f a b=true→b9 a b):∀ {r s:List (List AV)},M_ f r s=true→lX r s
  | [],[],_=>.nil
  | _::_,_::_,h=>by
    unfold M_ at h
    rw [Bool.and_eq_true] at h
    exact .cons (yg hf h.1) (HT hf h.2)
  | [],_::_,h=>by cases h
  | _::_,[],h=>by cases h
theorem yh:∀ (n:Nat) (a b:AV),leB n a b=true→b9 a b
  | 0,_,_,h=>by cases h
  | n + 1,a,b,h=>by
    unfold leB at h
    split at h
    · rw [eq_of_beq h]
      exact .refl _
    · rw [Bool.and_eq_true] at h
      rw [of_decide_eq_true h.1,eq_of_beq h.2]
      exact .refl _
    · rename_i x y
      obtain ⟨⟨x⟩⟩:=x
      obtain ⟨⟨y⟩⟩:=y
      have:x=y:=eq_of_beq h
      rw [this]
      exact .refl _
    · exact .refl _
    · rename_i r
      cases r with
      | nil=>exact .nil
      | cons _ _=>cases h
    · rename_i r
      cases r with
      | nil=>exact .esl
      | cons _ _=>cases h
    · exact .sl (HT (yh n) h)
    · exact .agg (yg (yh n) h)
    · exact .tup (yg (yh n) h)
    · rw [Bool.and_eq_true] at h
      rw [Nat.eq_of_beq_eq_true h.1]
      exact .fptr (yg (yh n) h.2)
    · cases h
def A0:dx:=⟨[],[],[],[],[],[],[],[],[]⟩
def KJ {ρ:Type}:{Γ:Prop}→Tr ρ Γ→Tr ρ Γ
  | _,.o _ _ r=>KJ r
  | _,T=>T
abbrev TK (ρ:Type):Type 1:=(Γ:Prop)→Tr ρ Γ→Prop
def zk {ρ:Type} (k:Nat):{Γ:Prop}→Tr ρ Γ→(dx→TK ρ)→Prop
  | _,.op j A r,F=>match Nat.beq j k with
    | true=>F A _ (KJ r)
    | false=>F A0 _ (.op j A r)
  | _,.ite j b t e,F=>match Nat.beq j k with
    | true=>(b=true∧zk k t F)∨(b=false∧zk k e F)
    | false=>F A0 _ (.ite j b t e)
  | _,.bind j m f,F=>match Nat.beq j k with
    | true=>∃ x,m=some x∧zk k (f x) F
    | false=>F A0 _ (.bind j m f)
  | _,.alt j y f g,F=>match Nat.beq j k with
    | true=>(∃ x,y=.inl x∧zk k (f x) F)∨(∃ x,y=.inr x∧zk k (g x) F)
    | false=>F A0 _ (.alt j y f g)
  | _,.opt j y a f,F=>match Nat.beq j k with
    | true=>(y=none∧zk k a F)∨(∃ x,y=some x∧zk k (f x) F)
    | false=>F A0 _ (.opt j y a f)
  | _,.bad,_=>False
  | _,T,F=>F A0 _ T
def Fi {ρ:Type} (k:Nat):{Γ:Prop}→Tr ρ Γ→(Option (Option (Wk×Le×Ex×St))→TK ρ)→Prop
  | _,.lp j W L e S r,F=>match Nat.beq j k with
    | true=>F (some (some (W,L,e,S))) _ (KJ r)
    | false=>F none _ (.lp j W L e S r)
  | _,.un j r,F=>match Nat.beq j k with
    | true=>F (some none) _ r
    | false=>F none _ (.un j r)
  | _,.ite j b t e,F=>match Nat.beq j k with
    | true=>(b=true∧Fi k t F)∨(b=false∧Fi k e F)
    | false=>F none _ (.ite j b t e)
  | _,.bind j m f,F=>match Nat.beq j k with
    | true=>∃ x,m=some x∧Fi k (f x) F
    | false=>F none _ (.bind j m f)
  | _,.alt j y f g,F=>match Nat.beq j k with
    | true=>(∃ x,y=.inl x∧Fi k (f x) F)∨(∃ x,y=.inr x∧Fi k (g x) F)
    | false=>F none _ (.alt j y f g)
  | _,.bad,_=>False
  | _,T,F=>F none _ T
def Nq {ρ:Type} (i:Nat):{Γ:Prop}→Tr ρ Γ→Tr ρ Γ
  | _,.rg j r=>match Nat.beq j i with
    | true=>r
    | false=>.rg j r
  | _,T=>T
def Na {ρ:Type} (S:St) (K:St→TK ρ):{Γ:Prop}→Tr ρ Γ→Prop
  | Γ,.wk W L r=>Ht L (wk W S) fun S'=>K S' Γ (KJ r)
  | Γ,T=>K S Γ T
def KL {ρ:Type} (S:St) (K:St→TK ρ):{Γ:Prop}→Tr ρ Γ→Prop
  | Γ,.wr L r=>Ht L S fun S'=>K S' Γ (KJ r)
  | Γ,.ite j b t e=>match Nat.beq j 5000000 with
    | true=>(b=true∧KL S K t)∨(b=false∧KL S K e)
    | false=>K S Γ (.ite j b t e)
  | _,.bad=>False
  | Γ,T=>K S Γ T
def Qz {ρ:Type} (P:Program) (o:Oper) (S:St) (F:Prop) (K:St→TK ρ):{Γ:Prop}→Tr ρ Γ→Prop
  | _,.dem j _ a r=>match Nat.beq j (keyOf o) with
    | true=>match o.op with
      | .binOp op t x (.const (.slice none 0 0)) _=>match P.underlying t with
        | some (.slice _)=>cz S x fun v=>match v with
          | .sl rows=>bo (Kx op) ((rows=[]→bd o.dst (.v (.bool (Am op))) S fun S'=>K S' _ a)∧bd o.dst (.v (.bool (!(Am op)))) S fun S'=>K S' _ (KJ r))
          | _=>aj 460
        | _=>aj 461
      | _=>aj 462
    | false=>F
  | _,_=>F
section
variable {ρ:Type} (C:Ctx) (cd:I3) (ord:List (Nat×PT)) (pl:br)
def BB (all:Array Oper):List Oper→St→(Γ:Prop)→Tr ρ Γ→(St→TK ρ)→Prop
  | [],S,Γ,T,K=>K S Γ T
  | o::rest,S,Γ,T,K =>
    match o.guard with
    | none=>Qz C.P o S (zk (keyOf o) T fun A Γ T=>JE C A pl o S fun S'=>BB all rest S' Γ T K) (fun S' Γ T=>BB all rest S' Γ T K) T
    | some (j,want) =>
      match sL all j with
      | none=>aj 218
      | some d=>gM d S fun b S1=>gsel b want (zk (keyOf o) T fun A Γ T=>JE C A pl o S1 fun S'=>BB all rest S' Γ T K) (bd o.dst (.tup []) S1 fun S'=>BB all rest S' Γ T K)
def tag (all:Array Oper) (o:Oper) (S:St) (Γ:Prop) (T:Tr ρ Γ) (K:St→TK ρ):Prop :=
  match o.guard with
  | none=>bo (jL pl all o S) (zk (keyOf o) T fun A Γ T=>C0 C A pl o S fun S'=>K S' Γ T)
  | some (j,want) =>
    match sL all j with
    | none=>aj 218
    | some d=>gM d S fun b S1=>gsel b want (bo (jL pl all o S1) (zk (keyOf o) T fun A Γ T=>C0 C A pl o S1 fun S'=>K S' Γ T)) (bd o.dst (.tup []) S1 fun S'=>K S' Γ T)
def Lw (ops:Array Oper) (i:Nat) (S:St) (Γ:Prop) (T:Tr ρ Γ) (K:St→TK ρ):Prop :=
  match ops[i]? with
  | none=>aj 303
  | some o=>tag C pl ops o S Γ T K
def tT (ops:Array Oper):PT→Option St→St→(Γ:Prop)→Tr ρ Γ→(St→TK ρ)→Prop
  | .done,m,S,Γ,T,K=>match m with
    | none=>K S Γ T
    | some S1=>K S1 Γ T
  | .go i t,m,S,Γ,T,K=>match m with
    | none=>Lw C pl ops i S Γ T fun S' Γ T=>tT ops t none S' Γ T K
    | some _=>aj 305
  | .alt i t r,m,S,Γ,T,K=>match m with
    | none=>Lw C pl ops i S Γ T fun S' Γ T=>tT ops t none S' Γ T fun S1 Γ T=>tT ops r (some S1) S Γ T K
    | some S1=>Lw C pl ops i S Γ T fun S' Γ T=>tT ops t none S' Γ T fun S2 Γ T=>S2=S1∧tT ops r (some S1) S Γ (KJ T) K
def BC:List Nat→St→(Γ:Prop)→Tr ρ Γ→(St→TK ρ)→Prop
  | [],S,Γ,T,K=>K S Γ T
  | id::ids,S,Γ,T,K=>zk (id + 2000000) T fun A Γ T=>qM A S id fun S'=>BC ids S' Γ T K
def yi:List Nat→St→(Γ:Prop)→Tr ρ Γ→(St→TK ρ)→Prop
  | [],S,Γ,T,K=>K S Γ T
  | id::ids,S,Γ,T,K=>zk (id + 6000000) T fun A Γ T=>tk A S id fun S'=>yi ids S' Γ T K
def Df (id:Nat) (S:St) (Γ:Prop) (T:Tr ρ Γ) (K:St→TK ρ):Prop :=
  match fq pl.cl id with
  | false=>K S Γ T
  | true=>BC (DJ S.o.length) S Γ T fun S1 Γ T=>match fq pl.fr id with
    | false=>K S1 Γ T
    | true=>yi (DJ S1.o.length) S1 Γ T K
def Jf (step:St→(Γ:Prop)→Tr ρ Γ→(Ex→St→TK ρ)→Prop):Nat→St→(Γ:Prop)→Tr ρ Γ→(Ex→St→TK ρ)→Prop
  | 0,_,_,_,_=>aj 470
  | n + 1,S,Γ,T,K=>step S Γ T fun e S' Γ T=>match e with
    | .nrm=>Jf step n S' Γ T K
    | .ex i=>K (.ex i) S' Γ T
    | .ret=>K .ret S' Γ T
def oY:Code→St→(Γ:Prop)→Tr ρ Γ→(Ex→St→TK ρ)→Prop
  | .skip,S,Γ,T,K=>K .nrm S Γ T
  | .region id ops draw,S,Γ,T,K =>
    match draw with
    | false=>BB C pl ops ops.toList S Γ (Nq id T) fun S' Γ T=>Df pl id S' Γ T fun S'' _ T=>KL S'' (K .nrm) T
    | true=>match rj ord id with
      | some is=>bo (u6 pl ops) (yO C.P (bZ ops.toList) S fun S1=>tT C pl ops is none S1 Γ (Nq id T) fun S' Γ T=>lG (bZ ops.toList) S' (Df pl id S' Γ T fun S'' _ T=>KL S'' (K .nrm) T))
      | none=>aj 440
  | .seq a b,S,Γ,T,K=>oY a S Γ T fun e S' _ T=>match e with
    | .nrm=>Fi (rn b + 4000000) T fun x Γ T=>match x with
      | some (some (W,L,e1,S1))=>Ht L (wk W S') fun S2=>cd b S2 (fun e' S3=>e'=e1∧S3=S1)∧K e1 S1 Γ T
      | _=>oY b S' Γ T K
    | .ex i=>K (.ex i) S' _ T
    | .ret=>K .ret S' _ T
  | .cond c x y,S,Γ,T,K=>pH c S fun b S'=>match b with
    | true=>oY x S' Γ T K
    | false=>oY y S' Γ T K
  | .block id c,S,Γ,T,K=>oY c S Γ T fun e S' Γ T=>match e with
    | .ex i=>match Nat.beq i id with | true=>K .nrm S' Γ T | false=>K (.ex i) S' Γ T
    | .nrm=>K .nrm S' Γ T
    | .ret=>K .ret S' Γ T
  | .loop c,S,Γ,T,K=>Fi (rn c + 3000000) T fun x Γ T=>match x with
    | some (some (W,L,e,S1))=>Ht L (wk W S) fun S2=>(C.loop pl c S2 fun e' S'=>e'=e∧S'=S1)∧K e S1 Γ T
    | some none=>Jf (oY c) 40 S Γ T K
    | none=>aj 471
  | .exit id,S,Γ,T,K=>K (.ex id) S Γ T
  | .ret,S,Γ,T,K=>K .ret S Γ T
  | _,_,_,_,_=>aj 119
def JI {σ τ:Type} (c:Code) (S:St) (r:σ⊕τ) (Sf:σ→St) (out:τ→Ex×St) (T:Tr (σ⊕τ) True):Prop :=
  oY C cd ord pl c S True T fun e S' _ T=>Na S' (fun S'' _ T=>match T with
    | .ret x=>match x with
      | .inl s=>match e with | .nrm=>.inl s=r∧S''=Sf s | _=>False
      | .inr t=>match e with | .nrm=>False | _=>.inr t=r∧(e,S'')=out t
    | _=>False) T
def JJ {σ τ:Type} (Sf:σ→St) (out:τ→Ex×St):σ⊕τ→Prop
  | .inl s=>Sf s=Sf s
  | .inr t=>out t=out t
def HU (c:Code) (S:St) (r:ρ) (out:ρ→Ex×St) (T:Tr ρ True):Prop :=
  oY C cd ord pl c S True T fun e S' _ T=>Na S' (fun S'' _ T=>match T with
    | .ret x=>x=r∧(e,S'')=out x
    | _=>False) T
def Fj (f:Nat) (args:List AV) (o:List Ob) (T:Tr ρ True) (K:AV→St→TK ρ):Prop :=
  match C.P.funcs[f]? with
  | some fn=>match fn.body with
    | some c=>oY C cd ord (C.pol f) c { t:=args++AR (fn.ntmps - args.length),l:=[],o:=o,b:=o.length } True T fun e S Γ T =>
        match e with
        | .ex _=>aj 120
        | _=>yP C.P S fn.results.toList fun rs=>B_ rs fun r=>K r S Γ T
    | none=>aj 121
  | none=>aj 122
def JK (f:Nat) (args:List AV) (r:ρ) (enc:ρ→AV) (T:Tr ρ True):Prop :=
  Fj C cd ord f args [] T fun a S _ T=>AL S.o a fun a=>match T with
    | .ret x=>x=r∧b9 a (enc x)
    | .rp x _ _=>x=r∧b9 a (enc x)
    | .rq x=>x=r∧leB 40 a (enc x)=true
    | _=>False
def HV (f:Nat) (args:List AV) (o:List Ob) (r:ρ) (out:ρ→AV×List Ob) (T:Tr ρ True):Prop :=
  Fj C cd ord f args o T fun a S _ T=>bo (wa 4 a&&Nat.beq S.b o.length) (match T with
    | .ret x=>x=r∧(a,S.o)=out x
    | _=>False)
end
section
variable {ρ:Type}
theorem ww {k:Nat} {Γ:Prop} (T:Tr ρ Γ) {F:dx→TK ρ} (h:zk k T F):∃ A Γ' T',F A Γ' T':=by
  induction T with
  | op j A r=>
    unfold zk at h
    split at h <;> exact ⟨_,_,_,h⟩
  | ite j b t e iht ihe =>
    unfold zk at h
    split at h
    · rcases h with ⟨_,h⟩ | ⟨_,h⟩
      · exact iht h
      · exact ihe h
    · exact ⟨_,_,_,h⟩
  | bind j m f ih =>
    unfold zk at h
    split at h
    · obtain ⟨x,_,h⟩:=h
      exact ih x h
    · exact ⟨_,_,_,h⟩
  | alt j y f g ihf ihg =>
    unfold zk at h
    split at h
    · rcases h with ⟨x,_,h⟩ | ⟨x,_,h⟩
      · exact ihf x h
      · exact ihg x h
    · exact ⟨_,_,_,h⟩
  | opt j y a f iha ihf =>
    unfold zk at h
    split at h
    · rcases h with ⟨_,h⟩ | ⟨x,_,h⟩
      · exact iha h
      · exact ihf x h
    · exact ⟨_,_,_,h⟩
  | bad=>exact False.elim h
  | _=>exact ⟨_,_,_,h⟩
theorem Fl {k:Nat} {Γ:Prop} (T:Tr ρ Γ) {F:Option (Option (Wk×Le×Ex×St))→TK ρ} (h:Fi k T F):∃ x Γ' T',F x Γ' T':=by
  induction T with
  | lp j W L e S r =>
    unfold Fi at h
    split at h <;> exact ⟨_,_,_,h⟩
  | un j r =>
    unfold Fi at h
    split at h <;> exact ⟨_,_,_,h⟩
  | ite j b t e iht ihe =>
    unfold Fi at h
    split at h
    · rcases h with ⟨_,h⟩ | ⟨_,h⟩
      · exact iht h
      · exact ihe h
    · exact ⟨_,_,_,h⟩
  | bind j m f ih =>
    unfold Fi at h
    split at h
    · obtain ⟨x,_,h⟩:=h
      exact ih x h
    · exact ⟨_,_,_,h⟩
  | alt j y f g ihf ihg =>
    unfold Fi at h
    split at h
    · rcases h with ⟨x,_,h⟩ | ⟨x,_,h⟩
      · exact ihf x h
      · exact ihg x h
    · exact ⟨_,_,_,h⟩
  | bad=>exact False.elim h
  | _=>exact ⟨_,_,_,h⟩
theorem Fo {S:St} {K:St→TK ρ} {Γ:Prop} {T:Tr ρ Γ} (h:Na S K T):∃ S' Γ' T',ez S S'∧K S' Γ' T':=by
  unfold Na at h
  split at h
  · obtain ⟨S2,h1,h⟩:=mG h
    exact ⟨S2,_,_,(qO _ _).trans h1,h⟩
  · exact ⟨S,_,_,.refl S,h⟩
theorem Fp {S:St} {K:St→TK ρ} {Γ:Prop} {T:Tr ρ Γ} (h:KL S K T):∃ S' Γ' T',ez S S'∧K S' Γ' T':=by
  induction T with
  | wr L r =>
    obtain ⟨S2,h1,h⟩:=mG h
    exact ⟨S2,_,_,h1,h⟩
  | ite j b t e iht ihe =>
    unfold KL at h
    split at h
    · rcases h with ⟨_,h⟩ | ⟨_,h⟩
      · exact iht h
      · exact ihe h
    · exact ⟨S,_,_,.refl S,h⟩
  | bad=>exact False.elim h
  | _=>exact ⟨S,_,_,.refl S,h⟩
variable {C:Ctx} {cd:I3} {ord:List (Nat×PT)} {pl:br}
theorem oz {G:Gh} (hO:xZ C) (hC:fQ C) {rr:Option Nat} {all:Array Oper} {Q:Exit→Act→World→Prop}:∀ {ops:List Oper} {E:Env} {S:St} {w:World} {a:Act} {Γ:Prop} {T:Tr ρ Γ} {K:St→TK ρ},al G pn E S w→TR E S.t a→BB C pl all ops S Γ T K →
    (∀ S' Γ' T' E' a' w',K S' Γ' T'→al G pn E' S' w'→TR E' S'.t a'→Q .normal a' w')→wpListIn (rd rr) 0 C.P all Q ops a w
  | [],E,S,w,a,Γ,T,K,hM,ht,h,hQ=>hQ _ _ _ _ _ _ h hM ht
  | o::rest,E,S,w,a,Γ,T,K,hM,ht,h,hQ=>by
    have step:∀ {S1:St},al G pn E S1 w→TR E S1.t a→Region.wanted o (yielded all a.tmps)=true→(zk (keyOf o) T fun A Γ T=>JE C A pl o S1 fun S'=>BB C pl all rest S' Γ T K)→wpListIn (rd rr) 0 C.P all Q (o::rest) a w:=by
      intro S1 hM1 ht1 hw h
      obtain ⟨A,Γ',T',h⟩:=ww _ h
      unfold wpListIn
      rw [if_pos hw]
      refine zW (D4 (wt hO h)) (uz hC hM1 ht1 (wt hO h) _ _ (fun S' E' a' w' hk hS htr=>?_))
      exact oz hO hC hS htr hk hQ
    unfold BB at h
    split at h
    · rename_i hg
      have hw:Region.wanted o (yielded all a.tmps)=true:=by unfold Region.wanted; rw [hg]
      unfold Qz at h
      split at h
      · split at h
        · unfold wpListIn
          rw [if_pos hw]
          split at h
          · rename_i op t x yt ho
            split at h
            · rename_i e hu
              obtain ⟨c,h,hc⟩:=dQ h ht
              split at h
              · rename_i rows
                obtain ⟨hop,h1,h2⟩:=ae h
                obtain ⟨b,hrun,hbr⟩:=vw hop hu hc w x (.const (.slice none 0 0))
                have hex:(execOp a.eval o).run C.P w=.ok (.value (.bool b)) w:=by
                  have:(execOp a.eval o)=(do pure (.value (← (do eqGuard op t x (.const (.slice none 0 0)) (a.eval x) (.slice none 0 0); binOp op t (a.eval x) (.slice none 0 0):Sem Value)))):=by
                    unfold execOp
                    rw [ho]
                    simp [Act.eval]
                  rw [this,Sem.run_bind,hrun]
                  rfl
                refine zW (fun c hc=>by rw [ho] at hc; cases hc) (dB hex ?_)
                have h3:∃ Γ' T',bd o.dst (.v (.bool b)) S fun S'=>BB C pl all rest S' Γ' T' K:=by
                  rcases hbr with ⟨rfl,hr⟩ | rfl
                  · exact ⟨_,_,h1 hr⟩
                  · exact ⟨_,_,h2⟩
                obtain ⟨Γ',T',h3⟩:=h3
                rw [aA] at h3
                exact oz hO hC (hM.congr cu cv cF) (ht.put (.v _ _ rfl)) h3 hQ
              · exact False.elim h
            · exact False.elim h
          · exact False.elim h
        · exact step hM ht hw h
      · exact step hM ht hw h
    · rename_i j want hg
      split at h
      · exact False.elim h
      · rename_i d hd
        obtain ⟨b,S1,h,hb,hM1,ht1⟩:=kW hM ht h
        rcases mB hg (od hd hb) h with ⟨hw,h⟩ | ⟨hw,h⟩
        · exact step hM1 ht1 hw h
        · rw [aA] at h
          unfold wpListIn
          rw [if_neg (by rw [hw]; exact fun h=>by cases h)]
          exact ⟨fun _ _=>trivial,oz hO hC (hM1.congr cu cv cF) (ht1.put (sZ _)) h hQ⟩
theorem Fq (hC:xZ C) {ops:Array Oper} {i:Nat} {S:St} {Γ:Prop} {T:Tr ρ Γ} {K:St→TK ρ} (h:Lw C pl ops i S Γ T K):∃ S1 Γ1 T1,zD C pl ops i S (fun S'=>S'=S1)∧K S1 Γ1 T1:=by
  unfold Lw at h
  unfold zD
  split at h
  · exact False.elim h
  · rename_i o ho
    rw [ho]
    dsimp only
    unfold tag at h
    unfold ag
    have key:∀ {S:St},bo (jL pl ops o S) (zk (keyOf o) T fun A Γ T=>C0 C A pl o S fun S'=>K S' Γ T)→∃ S1 Γ1 T1,rH C pl ops o S (fun S'=>S'=S1)∧K S1 Γ1 T1:=by
      intro S h
      obtain ⟨h1,h⟩:=ae h
      obtain ⟨A,Γ',T',h⟩:=ww _ h
      obtain ⟨S1,h2,h3⟩:=iu hC.det _ (yb hC h)
      exact ⟨S1,Γ',T',ap h1 (h3 _ rfl),h2⟩
    split at h
    · rename_i hg
      rw [hg]
      exact key h
    · rename_i j want hg
      rw [hg]
      dsimp only
      split at h
      · exact False.elim h
      · rename_i d hd
        rw [hd]
        dsimp only
        obtain ⟨b,S1,h1,h2⟩:=dj _ h
        unfold gsel at h1
        have h3:∃ S2 Γ2 T2,gsel b want (rH C pl ops o S1 fun S'=>S'=S2) (bd o.dst (.tup []) S1 fun S'=>S'=S2)∧K S2 Γ2 T2:=by
          unfold gsel
          split at h1
          · exact key h1
          · exact key h1
          · rw [aA] at h1
            exact ⟨_,_,_,(aA).2 rfl,h1⟩
        obtain ⟨S2,Γ2,T2,h3,h4⟩:=h3
        exact ⟨S2,Γ2,T2,h2 (fun b S1=>gsel b want (rH C pl ops o S1 fun S'=>S'=S2) (bd o.dst (.tup []) S1 fun S'=>S'=S2)) h3,h4⟩
theorem BD (hC:xZ C) {ops:Array Oper} {ws:List Nat}:∀ {n a:Nat} {listed:Array Bool} {t:PT} {S:St} {Γ:Prop} {T:Tr ρ Γ} {K:St→TK ρ},kJ pl ops ws n a listed=some t→tT C pl ops t none S Γ T K→∃ S1 Γ1 T1,kj C pl ops ws n listed S (fun S'=>S'=S1)∧K S1 Γ1 T1
  | 0,a,listed,t,S,Γ,T,K,hp,h=>by
    unfold kJ at hp
    unfold kj
    split at hp
    · cases hp
      rename_i hr
      rw [hr]
      exact ⟨S,Γ,T,rfl,h⟩
    · cases hp
  | n + 1,a,listed,t,S,Γ,T,K,hp,h=>by
    unfold kJ at hp
    unfold kj
    split at hp
    · cases hp
      rename_i hr
      rw [hr]
      exact ⟨S,Γ,T,rfl,h⟩
    · rename_i r rs hr
      rw [hr]
      dsimp only
      have step:∀ {k b:Nat} {u:PT} {S:St} {Γ:Prop} {T:Tr ρ Γ} {K:St→TK ρ},kJ pl ops ws n b (listed.setIfInBounds k true)=some u→(Lw C pl ops k S Γ T fun S' Γ T=>tT C pl ops u none S' Γ T K)→∃ S1 Γ1 T1,(zD C pl ops k S fun S'=>kj C pl ops ws n (listed.setIfInBounds k true) S' fun S''=>S''=S1)∧K S1 Γ1 T1:=by
        intro k b u S Γ T K hj h
        obtain ⟨S2,Γ2,T2,h1,h2⟩:=Fq hC h
        obtain ⟨S3,Γ3,T3,h3,h4⟩:=BD hC hj h2
        exact ⟨S3,Γ3,T3,ay.mono (gr hC.det) h1 (fun S' e=>by rw [e]; exact h3),h4⟩
      have alts:∀ {b:Nat} {is:List Nat} {u:PT} {S S1:St} {Γ:Prop} {T:Tr ρ Γ} {K:St→TK ρ},rm (fun i=>kJ pl ops ws n b (listed.setIfInBounds i true)) is=some u→tT C pl ops u (some S1) S Γ T K →
          (DL (fun i K'=>zD C pl ops i S fun S'=>kj C pl ops ws n (listed.setIfInBounds i true) S' K') is S1 (S1=S1))∧∃ Γ1 T1,K S1 Γ1 T1:=by
        intro b is
        induction is with
        | nil =>
          intro u S S1 Γ T K hu h
          unfold rm at hu
          cases hu
          exact ⟨rfl,_,_,h⟩
        | cons i is ih =>
          intro u S S1 Γ T K hu h
          unfold rm at hu
          split at hu
          · rename_i v hv
            split at hu
            · rename_i w hw
              cases hu
              obtain ⟨S2,Γ2,T2,h1,h2,h3⟩:=step hv h
              subst h2
              obtain ⟨h4,h5⟩:=ih hw h3
              exact ⟨ay.mono (ay.bind (gr hC.det) (fun S'=>f9 hC.det _ _ _)) h1 (fun S' e=>C9 ⟨e,h4⟩),h5⟩
            · cases hu
          · cases hu
      split at hp
      · rename_i k hk
        rw [hk]
        dsimp only
        split at hp
        · cases hp
          rename_i u hj
          exact step hj h
        · cases hp
      · rename_i hk
        rw [hk]
        dsimp only
        split at hp
        · split at hp
          · cases hp
            rename_i u hj
            exact step hj h
          · cases hp
        · split at hp
          · rename_i b _ _
            unfold rm at hp
            split at hp
            · rename_i v hv
              split at hp
              · rename_i w hw
                cases hp
                obtain ⟨S1,Γ1,T1,h1,h2⟩:=step hv h
                obtain ⟨h3,Γ2,T2,h4⟩:=alts hw h2
                exact ⟨S1,Γ2,T2,ay.mono (ay.bind (gr hC.det) (fun S'=>f9 hC.det _ _ _)) h1 (fun S' e=>by subst e; exact h3),h4⟩
              · cases hp
            · cases hp
          · cases hp
theorem HW (hC:xZ C) {ops:Array Oper} {ws:List Nat}:∀ {n:Nat} {listed:Array Bool} {t:PT} {S:St} {Γ:Prop} {T:Tr ρ Γ} {K:St→TK ρ},Ao pl ops ws n listed=some t→tT C pl ops t none S Γ T K→∃ S1 Γ1 T1,vJ C pl ops ws n listed S (fun S'=>S'=S1)∧K S1 Γ1 T1
  | 0,listed,t,S,Γ,T,K,hp,h=>BD hC (n:=0) hp h
  | n + 1,listed,t,S,Γ,T,K,hp,h=>by
    unfold Ao at hp
    unfold vJ
    split at hp
    · rename_i i hi
      rw [hi]
      dsimp only
      split at hp
      · cases hp
        rename_i u hj
        obtain ⟨S2,Γ2,T2,h1,h2⟩:=Fq hC h
        obtain ⟨S3,Γ3,T3,h3,h4⟩:=HW hC hj h2
        exact ⟨S3,Γ3,T3,ay.mono (gr hC.det) h1 (fun S' e=>by rw [e]; exact h3),h4⟩
      · cases hp
    · rename_i hi
      rw [hi]
      exact BD hC hp h
theorem HX (hC:xZ C) {ops:Array Oper} {t:PT} {S:St} {Γ:Prop} {T:Tr ρ Γ} {K:St→TK ρ} (hp:xV pl ops=some t) (h:tT C pl ops t none S Γ T K):∃ S1 Γ1 T1,yN C pl ops S (fun S'=>S'=S1)∧K S1 Γ1 T1:=by
  unfold xV at hp
  unfold yN
  split at hp
  · cases hp
  · rename_i hn
    split at hp
    · rename_i hc
      rw [hc]
      obtain ⟨S1,Γ1,T1,h1,h2⟩:=BD hC hp h
      exact ⟨S1,Γ1,T1,ap hn h1,h2⟩
    · rename_i hc
      rw [hc]
      obtain ⟨S1,Γ1,T1,h1,h2⟩:=HW hC hp h
      exact ⟨S1,Γ1,T1,ap hn h1,h2⟩
theorem vy:∀ {ids:List Nat} {S:St} {Γ:Prop} {T:Tr ρ Γ} {K:St→TK ρ},BC ids S Γ T K→∃ S1 Γ1 T1,nU ids S (fun S'=>S'=S1)∧K S1 Γ1 T1
  | [],S,Γ,T,_,h=>⟨S,Γ,T,rfl,h⟩
  | _::_,_,_,_,_,h=>by
    obtain ⟨A,Γ',T',h⟩:=ww _ h
    obtain ⟨S1,h1,h2⟩:=om _ (ru h)
    obtain ⟨S2,Γ2,T2,h3,h4⟩:=vy h1
    exact ⟨S2,Γ2,T2,h2 _ h3,h4⟩
theorem tr:∀ {ids:List Nat} {S:St} {Γ:Prop} {T:Tr ρ Γ} {K:St→TK ρ},yi ids S Γ T K→∃ S1 Γ1 T1,lF ids S (fun S'=>S'=S1)∧K S1 Γ1 T1
  | [],S,Γ,T,_,h=>⟨S,Γ,T,rfl,h⟩
  | _::_,_,_,_,_,h=>by
    obtain ⟨A,Γ',T',h⟩:=ww _ h
    obtain ⟨S1,h1,h2⟩:=p9 _ (tp h)
    obtain ⟨S2,Γ2,T2,h3,h4⟩:=tr h1
    exact ⟨S2,Γ2,T2,h2 _ h3,h4⟩
theorem Ax {id:Nat} {S:St} {Γ:Prop} {T:Tr ρ Γ} {K:St→TK ρ} (h:Df pl id S Γ T K):∃ S1 Γ1 T1,kH pl id S (fun S'=>S'=S1)∧K S1 Γ1 T1:=by
  unfold Df at h
  unfold kH
  split at h
  · rename_i hc
    rw [hc]
    exact ⟨S,_,_,rfl,h⟩
  · rename_i hc
    rw [hc]
    dsimp only
    obtain ⟨S1,Γ1,T1,h1,h2⟩:=vy h
    split at h2
    · rename_i hf
      refine ⟨S1,Γ1,T1,ay.mono (kq _ _) h1 (fun S' e=>?_),h2⟩
      rw [hf]
      exact e
    · rename_i hf
      obtain ⟨S2,Γ2,T2,h3,h4⟩:=tr h2
      refine ⟨S2,Γ2,T2,ay.mono (kq _ _) h1 (fun S' e=>?_),h4⟩
      rw [hf,e]
      exact h3
def QZ (G:Gh) (K:Ex→St→TK ρ) (Q:Exit→Act→World→Prop):Prop:=∀ e S' Γ' T' E' a' w',K e S' Γ' T'→al G pn E' S' w'→TR E' S'.t a'→Q (IS e) a' w'
theorem qg {cfg:u9} (hmix:cfg.P.follows .mixedOrders=true) {pl:br}:∀ (c:Code) {S:St} {Γ:Prop} {T:Tr ρ Γ} {K:Ex→St→TK ρ},kD pl ord c=true→oY (jg cfg) (eg cfg.P) ord pl c S Γ T K →
    ∀ (r:Option Nat) (G:Gh) (E:Env) (a:Act) (w:World) (Q:Exit→Act→World→Prop),al G pn E S w→TR E S.t a→QZ G K Q→c.wpIn (rd r) 0 cfg.P Q a w:=by
  have hC:=Da cfg
  intro c
  induction c with
  | skip=>exact fun _ h r G E a w Q hM ht hQ=>wpIn_skip (hQ .nrm _ _ _ E _ _ h hM ht)
  | region id ops draw =>
    intro S Γ T K hB h r G E a w Q hM ht hQ
    cases draw with
    | false =>
      refine wpIn_region_list (oz hC (lm cfg) hM ht h (fun S' Γ' T' E' a' w' hk hS htr=>?_))
      obtain ⟨S1,Γ1,T1,h1,h2⟩:=Ax hk
      obtain ⟨S3,E3,rfl,hS,htr⟩:=mz hS htr h1
      obtain ⟨S2,Γ2,T2,hw,hk⟩:=Fp h2
      obtain ⟨E2,hM2,ht2⟩:=hw G E3 a' w' hS htr
      exact hQ .nrm _ _ _ _ _ _ hk hM2 ht2
    | true =>
      unfold kD at hB
      have h':(match rj ord id with
      | some is=>bo (u6 pl ops) (yO (jg cfg).P (bZ ops.toList) S fun S1=>tT (jg cfg) pl ops is none S1 Γ (Nq id T) fun S' Γ T=>lG (bZ ops.toList) S' (Df pl id S' Γ T fun S'' _ T=>KL S'' (K .nrm) T))
      | none=>aj 440):=h
      split at hB
      · rename_i is js h1 h2
        rw [h1] at h'
        dsimp only at h'
        obtain ⟨h3,h'⟩:=ae h'
        obtain ⟨S1,h4,h5⟩:=xA _ h'
        rw [tq hB] at h4
        obtain ⟨S2,Γ2,T2,h6,h7⟩:=HX hC h2 h4
        obtain ⟨h8,h9⟩:=nn h7
        obtain ⟨S3,Γ3,T3,h10,h11⟩:=Ax h8
        refine np hmix pl id ops S (fun e S'=>e=.nrm∧S'=S3) ?_ r G E a w Q hM ht (fun e S' E' a' w' hk hS htr=>?_)
        · refine ap h3 (h5 _ (ay.mono (xB hC.det) h6 (fun S' e=>?_)))
          subst e
          exact h9 _ (ay.mono qJ h10 (fun S' e=>⟨rfl,e⟩))
        · obtain ⟨rfl,rfl⟩:=hk
          obtain ⟨S4,Γ4,T4,hw,hk⟩:=Fp h11
          obtain ⟨E2,hM2,ht2⟩:=hw G E' a' w' hS htr
          exact hQ .nrm _ _ _ _ _ _ hk hM2 ht2
      · cases hB
  | seq x y ihx ihy =>
    intro S Γ T K hB h r G E a w Q hM ht hQ
    unfold kD at hB
    rw [Bool.and_eq_true] at hB
    refine wpIn_seq (ihx hB.1 h r G E a w _ hM ht (fun e S' Γ' T' E' a' w' hk hS htr=>?_))
    cases e with
    | nrm =>
      obtain ⟨x,Γ1,T1,hk⟩:=Fl _ hk
      split at hk
      · obtain ⟨S2,h1,⟨e2,S3,h2,h3,h4⟩,h5⟩:=mG hk
        subst h3 h4
        obtain ⟨E2,hM2,ht2⟩:=((qO _ _).trans h1) G E' a' w' hS htr
        refine h2 r G E2 a' w' Q hM2 ht2 (fun e' S'' E'' a'' w'' he hS' ht'=>?_)
        obtain ⟨rfl,rfl⟩:=he
        exact hQ _ _ _ _ _ _ _ h5 hS' ht'
      · exact ihy hB.2 hk r G E' a' w' Q hS htr hQ
    | ex i=>exact hQ (.ex i) _ _ _ _ _ _ hk hS htr
    | ret=>exact hQ .ret _ _ _ _ _ _ hk hS htr
  | cond c x y ihx ihy =>
    intro S Γ T K hB h r G E a w Q hM ht hQ
    unfold kD at hB
    rw [Bool.and_eq_true] at hB
    obtain ⟨b,S1,h1,h2,h3,h4⟩:=pY hM ht h
    cases b with
    | true=>exact wpIn_cond_true h2 (ihx hB.1 h1 r G E a w Q h3 h4 hQ)
    | false=>exact wpIn_cond_false h2 (ihy hB.2 h1 r G E a w Q h3 h4 hQ)
  | block id c ih =>
    intro S Γ T K hB h r G E a w Q hM ht hQ
    refine wpIn_block (ih hB h r G E a w _ hM ht (fun e S' Γ' T' E' a' w' hk hS htr=>?_))
    cases e with
    | nrm=>exact hQ .nrm _ _ _ _ _ _ hk hS htr
    | ret=>exact hQ .ret _ _ _ _ _ _ hk hS htr
    | ex i =>
      show Exit.inBlock id Q (.exit i) a' w'
      unfold Exit.inBlock
      dsimp only at hk
      split at hk
      · rename_i hb
        have:=Nat.eq_of_beq_eq_true hb
        subst this
        simp only [if_pos]
        exact hQ .nrm _ _ _ _ _ _ hk hS htr
      · rename_i hb
        have hne:¬ i=id:=fun e=>by subst e; simp at hb
        simp only [if_neg hne]
        exact hQ (.ex i) _ _ _ _ _ _ hk hS htr
  | loop c ih =>
    intro S Γ T K hB h r G E a w Q hM ht hQ
    have h':(Fi (rn c + 3000000) T fun x Γ T=>match x with
    | some (some (W,L,e,S1))=>Ht L (wk W S) fun S2=>((jg cfg).loop pl c S2 fun e' S'=>e'=e∧S'=S1)∧K e S1 Γ T
    | some none=>Jf (oY (jg cfg) (eg cfg.P) ord pl c) 40 S Γ T K
    | none=>aj 471):=h
    clear h
    obtain ⟨x,Γ1,T1,h⟩:=Fl _ h'
    split at h
    · obtain ⟨S2,h1,h2,h3⟩:=mG h
      obtain ⟨E2,hM2,ht2⟩:=((qO _ _).trans h1) G E a w hM ht
      refine ln cfg pl c S2 _ h2 r G E2 a w Q hM2 ht2 (fun e' S'' E'' a'' w'' he hS' ht'=>?_)
      obtain ⟨rfl,rfl⟩:=he
      exact hQ _ _ _ _ _ _ _ h3 hS' ht'
    · have run:∀ (n:Nat) {S:St} {Γ:Prop} {T:Tr ρ Γ},Jf (oY (jg cfg) (eg cfg.P) ord pl c) n S Γ T K→∀ (E:Env) (a:Act) (w:World),al G pn E S w→TR E S.t a→Code.roundsIn (rd r) 0 cfg.P c Q n a w:=by
        intro n
        induction n with
        | zero=>exact fun h=>False.elim h
        | succ n ihn =>
          intro S Γ T h E a w hM ht
          refine ih hB h r G E a w _ hM ht (fun e S' Γ' T' E' a' w' hk hS htr=>?_)
          cases e with
          | nrm=>exact ihn hk E' a' w' hS htr
          | ex i=>exact hQ (.ex i) _ _ _ _ _ _ hk hS htr
          | ret=>exact hQ .ret _ _ _ _ _ _ hk hS htr
      exact wpIn_loop_rounds 40 (run 40 h E a w hM ht)
    · exact False.elim h
  | exit id=>exact fun _ h r G E a w Q hM ht hQ=>wpIn_exit (hQ (.ex id) _ _ _ E _ _ h hM ht)
  | ret=>exact fun _ h r G E a w Q hM ht hQ=>wpIn_ret (hQ .ret _ _ _ E _ _ h hM ht)
  | _=>exact fun _ h=>False.elim h
theorem eg.ofT {cfg:u9} (hmix:cfg.P.follows .mixedOrders=true) {pl:br} {c:Code} {S:St} {out:ρ→Ex×St} {r:ρ} {T:Tr ρ True} (hB:kD pl ord c=true)
    (h:HU (jg cfg) (eg cfg.P) ord pl c S r out T):eg cfg.P c S fun e S'=>(e,S')=out r:=by
  refine ⟨(out r).1,(out r).2,fun r G E a w Q hM ht hQ=>?_,rfl⟩
  refine qg hmix c hB h r G E a w Q hM ht (fun e' S' Γ' T' E' a' w' hk hS htr=>?_)
  obtain ⟨S2,Γ2,T2,hw,hk⟩:=Fo hk
  obtain ⟨E2,hM2,ht2⟩:=hw G E' a' w' hS htr
  split at hk
  · obtain ⟨rfl,h2⟩:=hk
    rw [← h2] at hQ
    exact hQ _ _ _ _ _ ⟨rfl,rfl⟩ hM2 ht2
  · exact False.elim hk
theorem nu {α β:Type} {out:α⊕β→Ex×St} (h:∀ a,(out (.inl a)).1≠.nrm) (k:∀ b,(out (.inr b)).1≠.nrm):∀ t,(out t).1≠.nrm
  | .inl a=>h a
  | .inr b=>k b
theorem eg.ofL {cfg:u9} (hmix:cfg.P.follows .mixedOrders=true) {pl:br} {c:Code} {S:St} {σ τ:Type} {Sf:σ→St} {out:τ→Ex×St} (hne:∀ t,(out t).1≠.nrm) {r:σ⊕τ} {T:Tr (σ⊕τ) True} (hB:kD pl ord c=true)
    (h:JI (jg cfg) (eg cfg.P) ord pl c S r Sf out T):eg cfg.P c S (rk Sf out r):=by
  have key:∀ (q:Ex×St),(∀ s,r=.inl s→q=(.nrm,Sf s))→(∀ t,r=.inr t→q=out t)→∀ (r':Option Nat) (G:Gh) (E:Env) (a:Act) (w:World) (Q:Exit→Act→World→Prop),al G pn E S w→TR E S.t a→Ha G (fun e' S''=>e'=q.1∧S''=q.2) Q→c.wpIn (rd r') 0 cfg.P Q a w:=by
    intro q h1 h2 r' G E a w Q hM ht hQ
    refine qg hmix c hB h r' G E a w Q hM ht (fun e' S' Γ' T' E' a' w' hk hS htr=>?_)
    obtain ⟨S2,Γ2,T2,hw,hk⟩:=Fo hk
    obtain ⟨E2,hM2,ht2⟩:=hw G E' a' w' hS htr
    split at hk
    · split at hk
      · split at hk
        · obtain ⟨h3,rfl⟩:=hk
          have:=h1 _ h3.symm
          exact hQ .nrm _ _ _ _ ⟨by rw [this],by rw [this]⟩ hM2 ht2
        · exact False.elim hk
      · split at hk
        · exact False.elim hk
        · obtain ⟨h3,h4⟩:=hk
          have:=h2 _ h3.symm
          exact hQ _ _ _ _ _ ⟨by rw [this,← h4],by rw [this,← h4]⟩ hM2 ht2
    · exact False.elim hk
  cases r with
  | inl s=>exact ⟨.nrm,Sf s,key (.nrm,Sf s) (fun _ e=>by cases e; rfl) (fun _ e=>by cases e),QY⟩
  | inr t=>exact ⟨(out t).1,(out t).2,key (out t) (fun _ e=>by cases e) (fun _ e=>by cases e; rfl),hne t,rfl,rfl⟩
theorem vz {cfg:u9} (hN:rb cfg.P) (hmix:cfg.P.follows .mixedOrders=true) {f:Nat} {args:List AV} {o:List Ob} {T:Tr ρ True} {K:AV→St→TK ρ} (hB:kD (cfg.pol f) ord (aF cfg.P f)=true) (h:Fj (jg cfg) (eg cfg.P) ord f args o T K) :
    sQ cfg.P f∧∀ (G:Gh) (E:Env) (w:World) (us:Array Value),al G pn E (IH o o.length) w→Cc E→bO E args us.toList→Calls cfg.P f us w fun e w'=>∃ v r S' E',(∃ Γ' T',K r S' Γ' T')∧e=.returned v∧al G pn E' S' w'∧VR E' r v:=by
  unfold Fj at h
  split at h
  · rename_i fn hf
    split at h
    · rename_i c hb
      have hb0:cfg.P.funcs[f]?=some fn:=hf
      refine ⟨⟨fn,c,hb0,hb,hN f fn hb0⟩,fun G E w us hM hg hv=>?_⟩
      refine xl.1 (callsIn_of_wp (F:=rd none) (n:=0) hb0 hb trivial ?_)
      have hl:args.length=us.size:=by simpa using hv.1
      unfold aF at hB
      rw [hb0] at hB
      dsimp only at hB
      rw [hb] at hB
      refine qg hmix c hB h none G E _ w _ (hM.congr rfl rfl rfl) ⟨?_,fun n c' u h1 h2=>?_,rfl,hg⟩ (fun e S' Γ' T' E' a' w' hk hS htr=>?_)
      · simp [xn,hl]
      · dsimp only at h1 h2
        by_cases hn:n<args.length
        · rw [List.getElem?_append_left hn] at h1
          rw [Array.getElem?_append_left (by omega)] at h2
          exact hv.2 n c' u h1 (by simpa using h2)
        · rw [List.getElem?_append_right (by omega)] at h1
          rw [xm h1]
          exact .bad _ _
      · cases e with
        | ex i=>exact False.elim hk
        | nrm =>
          obtain ⟨r,u,hk',hr,hrun⟩:=j7 (k:=fun r=>K r S' Γ' T') hS htr hk
          exact ⟨htr.df,u,hrun,u,r,S',E',⟨_,_,hk'⟩,rfl,hS,hr⟩
        | ret =>
          obtain ⟨r,u,hk',hr,hrun⟩:=j7 (k:=fun r=>K r S' Γ' T') hS htr hk
          exact ⟨htr.df,u,hrun,u,r,S',E',⟨_,_,hk'⟩,rfl,hS,hr⟩
    · exact False.elim h
  · exact False.elim h
theorem ft.ofT {cfg:u9} (hN:rb cfg.P) (hmix:cfg.P.follows .mixedOrders=true) {f:Nat} {args:List AV} {r:ρ} {enc:ρ→AV} {T:Tr ρ True} (hB:kD (cfg.pol f) ord (aF cfg.P f)=true) (h:JK (jg cfg) (eg cfg.P) ord f args r enc T):ft cfg.P f args (fun x=>x=enc r):=by
  obtain ⟨h1,h2⟩:=vz hN hmix hB h
  refine ⟨enc r,⟨h1,fun F w us hF hg hv=>?_⟩,rfl⟩
  have hM:al { w0:=w,M:=fun _=>False,F:=F,mu:=fun _=>none } pn ⟨F,fun _=>none,w.heap⟩ (IH [] 0) w :=
    ⟨rfl,rfl,rfl,rfl,Nat.le_refl _,fun _ _ _=>rfl,fun _ h=>h,hF,fun _ h _=>.inl h,fun _ _ _ _ _ h=>(by cases h),fun _ _ _ _ _ _ _ _ _ h _=>(by cases h),fun _=>rfl,fun _=>trivial,fun _ h=>(by cases h),Nat.le_refl _,fun _ _=>rfl,fun _ _ h=>(by cases h),fun _ _=>rfl⟩
  refine (h2 _ _ w us hM hg hv).mono ?_
  rintro e w' ⟨v,c,S',E',⟨Γ',T',hk⟩,rfl,hS,hr⟩
  unfold AL at hk
  split at hk
  · rename_i b hb
    rw [cf] at hk
    have hd:=iH hS _ hb hr (ids:=dH S'.o 6 c) (fun i hi=>hi)
    have hle:b9 b (enc r):=by
      split at hk
      · obtain ⟨rfl,h3⟩:=hk
        exact h3
      · obtain ⟨rfl,h3⟩:=hk
        exact h3
      · obtain ⟨rfl,h3⟩:=hk
        exact yh _ _ _ h3
      · exact False.elim hk
    refine ⟨v,FD E' (dH S'.o 6 c),rfl,?_,⟨hS.os,hS.tape,hS.output,hS.size,fun b' hb'=>hS.keep b' hb' (fun h=>h)⟩,fun b' h=>.inl (hS.F0 b' h),G1 hS,fun b' h hlt=>?_⟩
    · have e:(⟨FD E' (dH S'.o 6 c),fun _=>none,w'.heap⟩:Env)=E'.fd (dH S'.o 6 c):=by
        unfold Env.fd
        rw [hS.hp]
      rw [e]
      exact hle _ _ hd
    · rcases h with h | ⟨id,_,o',s,n,h⟩
      · rcases hS.Fnew b' h hlt with h3 | h3
        · exact h3
        · exact h3.elim
      · rcases (hS.own _ _ _ _ _ h).2.2 with h3 | h3
        · exact h3.elim
        · have h3:w.heap.size≤b':=h3
          omega
  · exact False.elim hk
theorem SD.ofT {cfg:u9} (hN:rb cfg.P) (hmix:cfg.P.follows .mixedOrders=true) {f:Nat} {args:List AV} {o:List Ob} {r:ρ} {out:ρ→AV×List Ob} {T:Tr ρ True} (hB:kD (cfg.pol f) ord (aF cfg.P f)=true) (h:HV (jg cfg) (eg cfg.P) ord f args o r out T):SD cfg.P f args o (fun r' o'=>r'=(out r).1∧o'=(out r).2):=by
  obtain ⟨h1,h2⟩:=vz hN hmix hB h
  refine ⟨(out r).1,(out r).2,⟨h1,fun E w us hM hg hv=>(h2 _ E w us hM hg hv).mono ?_⟩,rfl,rfl⟩
  rintro e w' ⟨v,c,S',E',⟨Γ',T',hk⟩,rfl,hS,hr⟩
  obtain ⟨hb,hk⟩:=ae hk
  split at hk
  · obtain ⟨rfl,h5⟩:=hk
    rw [← h5]
    simp only [Bool.and_eq_true] at hb
    have:=hS.obj_only
    rw [Nat.eq_of_beq_eq_true hb.2] at this
    exact ⟨v,c,S'.o,E'.ob,⟨rfl,rfl⟩,rfl,this,lK 4 hb.1 hr⟩
  · exact False.elim hk
end
abbrev vA (k:Nat) (v:AV):dx:=⟨[],[],[],[(k,v)],[],[],[],[],[]⟩
abbrev rA (k:Nat) (x:List AV):dx:=⟨[],[],[(k,x)],[],[],[],[],[],[]⟩
abbrev cA (k:Nat) (v:AV):dx:=⟨[],[],[],[],[(k,v)],[],[],[],[]⟩
abbrev hA (k:Nat):dx:=⟨[],[k],[],[],[],[],[],[],[]⟩
abbrev nA (k:Nat) (x:ze):dx:=⟨[],[],[],[],[],[],[],[],[(k,x)]⟩
abbrev mA (k:Nat) (x:List (AV×AV)):dx:=⟨[],[],[],[],[],[],[],[(k,x)],[]⟩
abbrev oA (k i:Nat) (x:List (List AV)):dx:=⟨[],[],[],[],[],[],[(k,(i,x))],[],[]⟩
abbrev mI (k:Nat) (v w:AV):dx:=⟨[],[],[],[(k,w)],[(k,v)],[],[],[],[]⟩
abbrev Fs (k:Nat) (v:AV):dx:=⟨[],[k],[],[(k,v)],[],[],[],[],[]⟩
abbrev BE (k i:Nat) (x:List (List AV)):dx:=⟨[],[k],[],[],[],[],[(k,(i,x))],[],[]⟩
abbrev Ey (k:Nat) (r:List AV) (i:Nat) (x:List (List AV)):dx:=⟨[],[],[(k,r)],[],[],[],[(k,(i,x))],[],[]⟩
abbrev sA (k:Nat) (v:AV×List Ob):dx:=⟨[],[],[],[],[],[(k,v)],[],[],[]⟩
abbrev wK (a b:List Nat) (c:Nat):Wk:=⟨a,b,c,[],[],[]⟩
abbrev l0:Le:=⟨[],[],[]⟩
theorem cB {a b:Bool} (h:a=b):AV.v (.bool a)=AV.v (.bool b):=congrArg LH h
theorem eS {α:Type} {m:Option α} {x y:α} (h:m=some x) (k:x=y):m=some y:=k▸h
theorem Nr {α:Type} {P:Prop} {c:Bool} {l:α}:(if c=true then some l else none).bind (fun x=>@ite _ (P→some l=some x) (Classical.propDecidable _) (some x) none)=grd c (some l):=by
  unfold grd
  split
  · show @ite _ (P→some l=some l) (Classical.propDecidable _) (some l) none=some l
    exact if_pos fun _=>rfl
  · rfl
abbrev cP (P:Program) {ρ:Type} (m:Option ρ) (f:Nat) (as:List AV) (enc:ρ→AV):Prop:=∀ r,m=some r→ft P f as (fun x=>x=enc r)
abbrev cS (P:Program) {ρ:Type} (m:Option ρ) (f:Nat) (as:List AV) (o:List Ob) (R:ρ→AV×List Ob):Prop:=∀ y,m=some y→SD P f as o (fun r' o'=>r'=(R y).1∧o'=(R y).2)
section
variable {ρ:Type} {Γ:Prop}
def tB (k:Nat) (b:Bool) (t:Tr ρ (Γ∧b=true)) (e:Tr ρ (Γ∧b=false)):Tr ρ Γ :=
  .ite k b (.op k (vA k (.v (.bool true))) (.o (AV.v (.bool b)=AV.v (.bool true)) (fun g=>cB g.2) t)) (.op k (vA k (.v (.bool false))) (.o (AV.v (.bool b)=AV.v (.bool false)) (fun g=>cB g.2) e))
def tG (k:Nat) (b:Bool) (t:Tr ρ (Γ∧b=true)):Tr ρ Γ:=.ite k b t .bad
def tL (k:Nat) {α:Type} (f:α→List AV) (l:List α) (r:Tr ρ Γ):Tr ρ Γ :=
  .op k (vA k (.v (.int .i64 (l.length:Int)))) (.o (AV.v (.int .i64 (((l.map f).length:Nat):Int))=AV.v (.int .i64 (l.length:Int))) (fun _=>I5 f l) r)
def tI (k:Nat) {α:Type} (f:α→List AV) (l:List α) (i:Int) (r:(x:α)→Tr ρ (Γ∧ak l i=some x)):Tr ρ Γ :=
  .bind k (ak l i) fun x=>.op k (rA k (f x)) (.o (Gl (l.map f) i=some (f x)) (fun g=>sj f g.2) (r x))
def tM (k:Nat) {α:Type} (f:α→List AV) {l:List α} {i:Int} {x:α} (h:Γ→ak l i=some x) (r:Tr ρ Γ):Tr ρ Γ :=
  .op k (rA k (f x)) (.o (Gl (l.map f) i=some (f x)) (fun g=>sj f (h g)) r)
def tN (k:Nat) {α:Type} (f:α→List AV) {l:List α} {i:Int} {x:α} (h:Γ→ak l i=some x) (r:Tr ρ Γ):Tr ρ Γ :=
  .op k (rA k (f x)) (.o ((l.map f)[i.toNat]?=some (f x)) (fun g=>fk f (h g)) r)
def tC (k:Nat) {α:Type} {m:Option α} {P:Program} {f:Nat} {as:List AV} {enc:α→AV} (h:cP P m f as enc) (r:(y:α)→Tr ρ (Γ∧m=some y)):Tr ρ Γ :=
  .bind k m fun y=>.op k (cA k (enc y)) (.o (ft P f as (fun x=>x=enc y)) (fun g=>h y g.2) (r y))
def tS (k:Nat) {α:Type} {m:Option α} {P:Program} {f:Nat} {as:List AV} {o:List Ob} {R:α→AV×List Ob} (h:cS P m f as o R) (r:(y:α)→Tr ρ (Γ∧m=some y)):Tr ρ Γ :=
  .bind k m fun y=>.op k (sA k (R y)) (.o (SD P f as o (fun r' o'=>r'=(R y).1∧o'=(R y).2)) (fun g=>h y g.2) (r y))
def tW (S:St) (f:St→Tr ρ Γ):Tr ρ Γ:=f S
def tF (f:Tr ρ Γ→Tr ρ Γ) (g:(Tr ρ Γ→Tr ρ Γ)→Tr ρ Γ):Tr ρ Γ:=g f
def tZ (S:St) (r:Tr ρ Γ):Tr ρ Γ:=.o (S=S) (fun _=>rfl) r
end
end A
end Go.Proofs.YtomahedcdcnnhaaGreatDoor
