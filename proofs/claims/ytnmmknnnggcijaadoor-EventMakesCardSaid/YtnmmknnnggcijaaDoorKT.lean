/- The evaluator along trees; contracts out of it. Nothing is claimed here of the program. -/
import Derived.Test.YtnmmknnnggcijaaDoorKB
namespace Go.Proofs.YtnmmknnnggcijaaDoor
namespace A
open Go
def Dl:Nat→AV→List Nat
  | 0,_=>[]
  | n + 1,a=>match a with
    | .mf id | .msl id _ _ _ | .mp id | .ptr (.O id) _ _ | .bsl (.O id) _ _=>[id]
    | .agg cs | .tup cs=>cs.flatMap (Dl n)
    | .fn _ x y=>x.flatMap (Dl n)++y.flatMap (Dl n)
    | _=>[]
def swp (b:Nat) (a:AV) (o:List Ob):List Nat:=(zM b (o.length - b)).filter fun i=>!(dQ (Dl 4 a) i)
def t6:List Nat→AV→List Ob→AV×List Ob
  | [],a,o=>(a,o)
  | id::ids,a,o=>match Nat.blt id o.length with
    | true=>t6 ids (cm 4 (.O id) a) ((o.map (dl (.O id))).set id .dead)
    | false=>t6 ids a o
def zY:Ob→Bool
  | .dead=>true
  | .arr true _ _=>true
  | _=>false
def CC:AV→Option Nat
  | .mf i=>some i
  | .tup [.mf i,.v _]=>some i
  | _=>none
def E7 (b:Nat):AV→AV
  | .mf _=>.mf b
  | .tup [.mf _,.v x]=>.tup [.mf b,.v x]
  | a=>a
def fin (b:Nat) (a:AV) (o:List Ob):AV×List Ob :=
  match CC a with
  | some i=>match Nat.ble b i&&(o.take b).all zY,o[i]? with
    | true,some (.arr true sz rows)=>(E7 b a,o.take b++[.arr true sz rows])
    | _,_=>t6 (swp b a o) a o
  | none=>t6 (swp b a o) a o
open Go.RowKit (Below)
inductive Tr (ρ:Type):Prop→Type 1 where
  | ret {Γ:Prop} (x:ρ):Tr ρ Γ
  | rp {Γ:Prop} (x:ρ) (Q:Prop) (h:Γ→Q):Tr ρ Γ
  | rq {Γ:Prop} (x:ρ):Tr ρ Γ
  | bad {Γ:Prop}:Tr ρ Γ
  | op {Γ:Prop} (k:Nat) (A:dh) (r:Tr ρ Γ):Tr ρ Γ
  | o {Γ:Prop} (P:Prop) (h:Γ→P) (r:Tr ρ Γ):Tr ρ Γ
  | rg {Γ:Prop} (i:Nat) (r:Tr ρ Γ):Tr ρ Γ
  | ite {Γ:Prop} (k:Nat) (b:Bool) (t:Tr ρ (Γ∧b=true)) (e:Tr ρ (Γ∧b=false)):Tr ρ Γ
  | bind {Γ:Prop} (k:Nat) {α:Type} (m:Option α) (f:(x:α)→Tr ρ (Γ∧m=some x)):Tr ρ Γ
  | alt {Γ:Prop} (k:Nat) {α β:Type} (y:α⊕β) (f:(x:α)→Tr ρ (Γ∧y=.inl x)) (g:(x:β)→Tr ρ (Γ∧y=.inr x)):Tr ρ Γ
  | opt {Γ:Prop} (k:Nat) {α:Type} (y:Option α) (a:Tr ρ (Γ∧y=none)) (f:(x:α)→Tr ρ (Γ∧y=some x)):Tr ρ Γ
  | dem {Γ:Prop} (k:Nat) (P:Prop) (a:Tr ρ (Γ∧P)) (r:Tr ρ Γ):Tr ρ Γ
  | lp {Γ:Prop} (k:Nat) (W:Wk) (L:Le) (e:Ex) (S:St) (r:Tr ρ Γ):Tr ρ Γ
  | un {Γ:Prop} (k:Nat) (r:Tr ρ Γ):Tr ρ Γ
  | wk {Γ:Prop} (W:Wk) (L:Le) (r:Tr ρ Γ):Tr ρ Γ
  | wr {Γ:Prop} (ds:List Nat) (L:Le) (r:Tr ρ Γ):Tr ρ Γ
noncomputable def Tr.eval {ρ:Type}:{Γ:Prop}→Tr ρ Γ→Option ρ
  | _,.ret x=>some x
  | _,.rp x _ _=>some x
  | _,.rq x=>some x
  | _,.bad=>none
  | _,.op _ _ r=>r.eval
  | _,.o _ _ r=>r.eval
  | _,.rg _ r=>r.eval
  | _,.ite _ b t e=>if b=true then t.eval else e.eval
  | _,.bind _ m f=>m.bind fun x=>(f x).eval
  | _,.alt _ y f g=>Sum.elim (fun x=>(f x).eval) (fun x=>(g x).eval) y
  | _,.opt _ y a f=>BI y a.eval fun x=>(f x).eval
  | _,.dem _ P a r=>r.eval.bind fun x=>@_root_.ite _ (P→a.eval=some x) (Classical.propDecidable _) (some x) none
  | _,.lp _ _ _ _ _ r=>r.eval
  | _,.un _ r=>r.eval
  | _,.wk _ _ r=>r.eval
  | _,.wr _ _ r=>r.eval
def Tr.prop {ρ:Type} (r:ρ) (Q:ρ→Prop):{Γ:Prop}→Tr ρ Γ→Prop
  | _,.ret x=>x=r∧Q x
  | _,.rp x Q' _=>x=r∧Q'
  | _,.rq x=>x=r∧true=true
  | _,.bad=>False
  | _,.op _ _ t=>t.prop r Q
  | _,.o P _ t=>P∧t.prop r Q
  | _,.rg _ t=>t.prop r Q
  | _,.ite _ b t e=>(b=true∧t.prop r Q)∨(b=false∧e.prop r Q)
  | _,.bind _ m f=>∃ x,m=some x∧(f x).prop r Q
  | _,.alt _ y f g=>(∃ x,y=.inl x∧(f x).prop r Q)∨(∃ x,y=.inr x∧(g x).prop r Q)
  | _,.opt _ y a f=>(y=none∧a.prop r Q)∨(∃ x,y=some x∧(f x).prop r Q)
  | _,.dem _ P a t=>(P→a.prop r Q)∧t.prop r Q
  | _,.lp _ _ _ _ _ t=>t.prop r Q
  | _,.un _ t=>t.prop r Q
  | _,.wk _ _ t=>t.prop r Q
  | _,.wr _ _ t=>t.prop r Q
theorem Tr.holds {ρ:Type} {r:ρ} {Q:ρ→Prop} (hQ:∀ x,Q x) {Γ:Prop} (T:Tr ρ Γ):Γ→T.eval=some r→T.prop r Q:=by
  induction T with
  | ret x=>exact fun _ h=>⟨Fj h,hQ x⟩
  | rp x Q' h'=>exact fun hg h=>⟨Fj h,h' hg⟩
  | rq x=>exact fun _ h=>⟨Fj h,rfl⟩
  | bad=>exact fun _ h=>by cases h
  | o P h' t ih=>exact fun hg h=>⟨h' hg,ih hg h⟩
  | op _ _ t ih | rg _ t ih | lp _ _ _ _ _ t ih | un _ t ih | wk _ _ t ih | wr _ _ t ih=>exact fun hg h=>ih hg h
  | ite k b t e iht ihe =>
    intro hg h
    rcases Fx (b:=b) h with ⟨hb,h⟩ | ⟨hb,h⟩
    · exact .inl ⟨hb,iht ⟨hg,hb⟩ h⟩
    · exact .inr ⟨hb,ihe ⟨hg,hb⟩ h⟩
  | bind k m f ih =>
    intro hg h
    obtain ⟨x,hx,h⟩:=Dt (x:=m) h
    exact ⟨x,hx,ih x ⟨hg,hx⟩ h⟩
  | alt k y f g ihf ihg =>
    intro hg h
    cases y with
    | inl x=>exact .inl ⟨x,rfl,ihf x ⟨hg,rfl⟩ h⟩
    | inr x=>exact .inr ⟨x,rfl,ihg x ⟨hg,rfl⟩ h⟩
  | opt k y a f iha ihf =>
    intro hg h
    rcases CW (x:=y) h with ⟨hy,h⟩ | ⟨z,hz,h⟩
    · exact .inl ⟨hy,iha ⟨hg,hy⟩ h⟩
    · exact .inr ⟨z,hz,ihf z ⟨hg,hz⟩ h⟩
  | dem k P a t iha iht =>
    intro hg h
    obtain ⟨x,hx,h⟩:=Dt (x:=t.eval) h
    split at h
    · rename_i hp
      have:=Fj h
      subst this
      exact ⟨fun p=>iha ⟨hg,p⟩ (hp p),iht hg hx⟩
    · cases h
def Ev (f:AV→AV→Bool):List AV→List AV→Bool
  | [],[]=>true
  | x::xs,y::ys=>f x y&&Ev f xs ys
  | _,_=>false
def Fs (f:AV→AV→Bool):List (List AV)→List (List AV)→Bool
  | [],[]=>true
  | x::xs,y::ys=>Ev f x y&&Fs f xs ys
  | _,_=>false
def E8:List (List AV)→Bool
  | []=>true
  | _=>false
def leB:Nat→AV→AV→Bool
  | 0,_,_=>false
  | n + 1,a,b=>match a,b with
    | .v (.bool x),.v (.bool y)=>x==y
    | .v (.int k x),.v (.int l y)=>decide (k=l)&&(x==y)
    | .v (.string x),.v (.string y)=>x.data.toList==y.data.toList
    | .nilp,.nilp=>true
    | .nilsl,.sl r=>E8 r
    | .esl,.sl r=>E8 r
    | .sl r,.sl s=>Fs (leB n) r s
    | .agg r,.agg s=>Ev (leB n) r s
    | .tup r,.tup s=>Ev (leB n) r s
    | .fptr r i,.fptr s j=>Nat.beq i j&&Ev (leB n) r s
    | _,_=>false
theorem t9 {f:AV→AV→Bool} (hf:∀ a b,f a b=true→bB a b):∀ {r s:List AV},Ev f r s=true→bm r s
  | [],[],_=>.nil
  | _::_,_::_,h=>by
    unfold Ev at h
    rw [Bool.and_eq_true] at h
    exact .cons (hf _ _ h.1) (t9 hf h.2)
  | [],_::_,h=>by cases h
  | _::_,[],h=>by cases h
theorem CE {f:AV→AV→Bool} (hf:∀ a b,f a b=true→bB a b):∀ {r s:List (List AV)},Fs f r s=true→kG r s
  | [],[],_=>.nil
  | _::_,_::_,h=>by
    unfold Fs at h
    rw [Bool.and_eq_true] at h
    exact .cons (t9 hf h.1) (CE hf h.2)
  | [],_::_,h=>by cases h
  | _::_,[],h=>by cases h
theorem t_:∀ (n:Nat) (a b:AV),leB n a b=true→bB a b
  | 0,_,_,h=>by cases h
  | n + 1,a,b,h=>by
    unfold leB at h
    split at h
    · rw [eq_of_beq h]
      exact .refl _
    · rw [Bool.and_eq_true] at h
      rw [of_decide_eq_true h.1,eq_of_beq h.2]
      exact .refl _
    · rename_i x y
      obtain ⟨⟨x⟩⟩:=x
      obtain ⟨⟨y⟩⟩:=y
      have:x=y:=eq_of_beq h
      rw [this]
      exact .refl _
    · exact .refl _
    · rename_i r
      cases r with
      | nil=>exact .nil
      | cons _ _=>cases h
    · rename_i r
      cases r with
      | nil=>exact .esl
      | cons _ _=>cases h
    · exact .sl (CE (t_ n) h)
    · exact .agg (t9 (t_ n) h)
    · exact .tup (t9 (t_ n) h)
    · rw [Bool.and_eq_true] at h
      rw [Nat.eq_of_beq_eq_true h.1]
      exact .fptr (t9 (t_ n) h.2)
    · cases h
def A0:dh:=⟨[],[],[],[],[],[],[],[],[]⟩
def Ew {ρ:Type}:{Γ:Prop}→Tr ρ Γ→Tr ρ Γ
  | _,.o _ _ r=>Ew r
  | _,T=>T
abbrev TK (ρ:Type):Type 1:=(Γ:Prop)→Tr ρ Γ→Prop
def uY {ρ:Type} (k:Nat):{Γ:Prop}→Tr ρ Γ→(dh→TK ρ)→Prop
  | _,.op j A r,F=>match Nat.beq j k with
    | true=>F A _ (Ew r)
    | false=>F A0 _ (.op j A r)
  | _,.ite j b t e,F=>match Nat.beq j k with
    | true=>(b=true∧uY k t F)∨(b=false∧uY k e F)
    | false=>F A0 _ (.ite j b t e)
  | _,.bind j m f,F=>match Nat.beq j k with
    | true=>∃ x,m=some x∧uY k (f x) F
    | false=>F A0 _ (.bind j m f)
  | _,.alt j y f g,F=>match Nat.beq j k with
    | true=>(∃ x,y=.inl x∧uY k (f x) F)∨(∃ x,y=.inr x∧uY k (g x) F)
    | false=>F A0 _ (.alt j y f g)
  | _,.opt j y a f,F=>match Nat.beq j k with
    | true=>(y=none∧uY k a F)∨(∃ x,y=some x∧uY k (f x) F)
    | false=>F A0 _ (.opt j y a f)
  | _,.bad,_=>False
  | _,T,F=>F A0 _ T
def AE {ρ:Type} (k:Nat):{Γ:Prop}→Tr ρ Γ→(Option (Option (Wk×Le×Ex×St))→TK ρ)→Prop
  | _,.lp j W L e S r,F=>match Nat.beq j k with
    | true=>F (some (some (W,L,e,S))) _ (Ew r)
    | false=>F none _ (.lp j W L e S r)
  | _,.un j r,F=>match Nat.beq j k with
    | true=>F (some none) _ r
    | false=>F none _ (.un j r)
  | _,.ite j b t e,F=>match Nat.beq j k with
    | true=>(b=true∧AE k t F)∨(b=false∧AE k e F)
    | false=>F none _ (.ite j b t e)
  | _,.bind j m f,F=>match Nat.beq j k with
    | true=>∃ x,m=some x∧AE k (f x) F
    | false=>F none _ (.bind j m f)
  | _,.alt j y f g,F=>match Nat.beq j k with
    | true=>(∃ x,y=.inl x∧AE k (f x) F)∨(∃ x,y=.inr x∧AE k (g x) F)
    | false=>F none _ (.alt j y f g)
  | _,.bad,_=>False
  | _,T,F=>F none _ T
def FF {ρ:Type} (i:Nat):{Γ:Prop}→Tr ρ Γ→Tr ρ Γ
  | _,.rg j r=>match Nat.beq j i with
    | true=>r
    | false=>.rg j r
  | _,T=>T
def Ft {ρ:Type} (S:St) (K:St→TK ρ):{Γ:Prop}→Tr ρ Γ→Prop
  | Γ,.wk W L r=>Cg L (wk W S) fun S'=>K S' Γ (Ew r)
  | Γ,T=>K S Γ T
def ua:List Nat→St→St
  | [],S=>S
  | d::ds,S=>match S.t[d]? with
    | some (.msl id 0 len _)=>match S.o[id]? with
      | some (.arr true sz rows)=>match Nat.ble S.b id with
        | true=>ua ds { t:=(cV id S).t.set d (.mf id),l:=(cV id S).l,o:=(cV id S).o.set id (.arr true sz (rows.take len)),b:=S.b }
        | false=>ua ds S
      | _=>ua ds S
    | _=>ua ds S
def Ey {ρ:Type} (S:St) (K:St→TK ρ):{Γ:Prop}→Tr ρ Γ→Prop
  | Γ,.wr ds L r=>Cg L (ua ds S) fun S'=>K S' Γ (Ew r)
  | Γ,.ite j b t e=>match Nat.beq j 5000000 with
    | true=>(b=true∧Ey S K t)∨(b=false∧Ey S K e)
    | false=>K S Γ (.ite j b t e)
  | _,.bad=>False
  | Γ,T=>K S Γ T
def F7 {ρ:Type} (P:Program) (o:Oper) (S:St) (F:Prop) (K:St→TK ρ):{Γ:Prop}→Tr ρ Γ→Prop
  | _,.dem j _ a r=>match Nat.beq j (keyOf o) with
    | true=>match o.op with
      | .binOp op t x (.const (.slice none 0 0)) _=>match P.underlying t with
        | some (.slice _)=>cj S x fun v=>match v with
          | .sl rows=>bf (Ep op) ((rows=[]→bc o.dst (.v (.bool (vZ op))) S fun S'=>K S' _ a)∧bc o.dst (.v (.bool (!(vZ op)))) S fun S'=>K S' _ (Ew r))
          | _=>af 460
        | _=>af 461
      | _=>af 462
    | false=>F
  | _,_=>F
section
variable {ρ:Type} (C:Ctx) (cd:Df) (ord:List (Nat×PT)) (pl:bi)
def w_ (all:Array Oper):List Oper→St→(Γ:Prop)→Tr ρ Γ→(St→TK ρ)→Prop
  | [],S,Γ,T,K=>K S Γ T
  | o::rest,S,Γ,T,K =>
    match o.guard with
    | none=>F7 C.P o S (uY (keyOf o) T fun A Γ T=>DJ C A pl o S fun S'=>w_ all rest S' Γ T K) (fun S' Γ T=>w_ all rest S' Γ T K) T
    | some (j,want) =>
      match pi all j with
      | none=>af 218
      | some d=>fk d S fun b S1=>gsel b want (uY (keyOf o) T fun A Γ T=>DJ C A pl o S1 fun S'=>w_ all rest S' Γ T K) (bc o.dst (.tup []) S1 fun S'=>w_ all rest S' Γ T K)
def tag (all:Array Oper) (o:Oper) (S:St) (Γ:Prop) (T:Tr ρ Γ) (K:St→TK ρ):Prop :=
  match o.guard with
  | none=>bf (iB pl all o S) (uY (keyOf o) T fun A Γ T=>yx C A pl o S fun S'=>K S' Γ T)
  | some (j,want) =>
    match pi all j with
    | none=>af 218
    | some d=>fk d S fun b S1=>gsel b want (bf (iB pl all o S1) (uY (keyOf o) T fun A Γ T=>yx C A pl o S1 fun S'=>K S' Γ T)) (bc o.dst (.tup []) S1 fun S'=>K S' Γ T)
def ET (ops:Array Oper) (i:Nat) (S:St) (Γ:Prop) (T:Tr ρ Γ) (K:St→TK ρ):Prop :=
  match ops[i]? with
  | none=>af 303
  | some o=>tag C pl ops o S Γ T K
def tT (ops:Array Oper):PT→Option St→St→(Γ:Prop)→Tr ρ Γ→(St→TK ρ)→Prop
  | .done,m,S,Γ,T,K=>match m with
    | none=>K S Γ T
    | some S1=>K S1 Γ T
  | .go i t,m,S,Γ,T,K=>match m with
    | none=>ET C pl ops i S Γ T fun S' Γ T=>tT ops t none S' Γ T K
    | some _=>af 305
  | .alt i t r,m,S,Γ,T,K=>match m with
    | none=>ET C pl ops i S Γ T fun S' Γ T=>tT ops t none S' Γ T fun S1 Γ T=>tT ops r (some S1) S Γ T K
    | some S1=>ET C pl ops i S Γ T fun S' Γ T=>tT ops t none S' Γ T fun S2 Γ T=>S2=S1∧tT ops r (some S1) S Γ (Ew T) K
def xd:List Nat→St→(Γ:Prop)→Tr ρ Γ→(St→TK ρ)→Prop
  | [],S,Γ,T,K=>K S Γ T
  | id::ids,S,_,T,K=>uY (id + 2000000) T fun A Γ T=>ni A S id fun S'=>xd ids S' Γ T K
def uc:List Nat→St→(Γ:Prop)→Tr ρ Γ→(St→TK ρ)→Prop
  | [],S,Γ,T,K=>K S Γ T
  | id::ids,S,_,T,K=>uY (id + 6000000) T fun A Γ T=>pT A S id fun S'=>uc ids S' Γ T K
def yL (id:Nat) (S:St) (Γ:Prop) (T:Tr ρ Γ) (K:St→TK ρ):Prop :=
  match dQ pl.cl id with
  | false=>K S Γ T
  | true=>xd (yZ S.o.length) S Γ T fun S1 Γ T=>match dQ pl.fr id with
    | false=>K S1 Γ T
    | true=>uc (yZ S1.o.length) S1 Γ T K
def Dm (step:St→(Γ:Prop)→Tr ρ Γ→(Ex→St→TK ρ)→Prop):Nat→St→(Γ:Prop)→Tr ρ Γ→(Ex→St→TK ρ)→Prop
  | 0,_,_,_,_=>af 470
  | n + 1,S,Γ,T,K=>step S Γ T fun e S' Γ T=>match e with
    | .nrm=>Dm step n S' Γ T K
    | .ex i=>K (.ex i) S' Γ T
    | .ret=>K .ret S' Γ T
def lX:Code→St→(Γ:Prop)→Tr ρ Γ→(Ex→St→TK ρ)→Prop
  | .skip,S,Γ,T,K=>K .nrm S Γ T
  | .region id ops draw,S,Γ,T,K =>
    match draw with
    | false=>w_ C pl ops ops.toList S Γ (FF id T) fun S' Γ T=>yL pl id S' Γ T fun S'' _ T=>Ey S'' (K .nrm) T
    | true=>match o8 ord id with
      | some is=>bf (qR pl ops) (uA C.P (bR ops.toList) S fun S1=>tT C pl ops is none S1 Γ (FF id T) fun S' Γ T=>jM (bR ops.toList) S' (yL pl id S' Γ T fun S'' _ T=>Ey S'' (K .nrm) T))
      | none=>af 440
  | .seq a b,S,Γ,T,K=>lX a S Γ T fun e S' _ T=>match e with
    | .nrm=>AE (nH b + 4000000) T fun x Γ T=>match x with
      | some (some (W,L,e1,S1))=>Cg L (wk W S') fun S2=>cd b S2 (fun e' S3=>e'=e1∧S3=S1)∧K e1 S1 Γ T
      | _=>lX b S' Γ T K
    | .ex i=>K (.ex i) S' _ T
    | .ret=>K .ret S' _ T
  | .cond c x y,S,Γ,T,K=>md c S fun b S'=>match b with
    | true=>lX x S' Γ T K
    | false=>lX y S' Γ T K
  | .block id c,S,Γ,T,K=>lX c S Γ T fun e S' Γ T=>match e with
    | .ex i=>match Nat.beq i id with | true=>K .nrm S' Γ T | false=>K (.ex i) S' Γ T
    | .nrm=>K .nrm S' Γ T
    | .ret=>K .ret S' Γ T
  | .loop c,S,_,T,K=>AE (nH c + 3000000) T fun x Γ T=>match x with
    | some (some (W,L,e,S1))=>Cg L (wk W S) fun S2=>(C.loop pl c S2 fun e' S'=>e'=e∧S'=S1)∧K e S1 Γ T
    | some none=>Dm (lX c) 40 S Γ T K
    | none=>af 471
  | .exit id,S,Γ,T,K=>K (.ex id) S Γ T
  | .ret,S,Γ,T,K=>K .ret S Γ T
  | _,_,_,_,_=>af 119
def DN {σ τ:Type} (c:Code) (S:St) (r:σ⊕τ) (Sf:σ→St) (out:τ→Ex×St) (T:Tr (σ⊕τ) True):Prop :=
  lX C cd ord pl c S True T fun e S' _ T=>Ft S' (fun S'' _ T=>match T with
    | .ret x=>match x with
      | .inl s=>match e with | .nrm=>.inl s=r∧S''=Sf s | _=>False
      | .inr t=>match e with | .nrm=>False | _=>.inr t=r∧(e,S'')=out t
    | _=>False) T
def DO {σ τ:Type} (Sf:σ→St) (out:τ→Ex×St):σ⊕τ→Prop
  | .inl s=>Sf s=Sf s
  | .inr t=>out t=out t
def CF (c:Code) (S:St) (r:ρ) (out:ρ→Ex×St) (T:Tr ρ True):Prop :=
  lX C cd ord pl c S True T fun e S' _ T=>Ft S' (fun S'' _ T=>match T with
    | .ret x=>x=r∧(e,S'')=out x
    | _=>False) T
def yM (f:Nat) (args:List AV) (o:List Ob) (T:Tr ρ True) (K:AV→St→TK ρ):Prop :=
  match C.P.funcs[f]? with
  | some fn=>match fn.body with
    | some c=>lX C cd ord (C.pol f) c { t:=args++wn (fn.ntmps - args.length),l:=[],o:=o,b:=o.length } True T fun e S Γ T =>
        match e with
        | .ex _=>af 120
        | _=>uB C.P S fn.results.toList fun rs=>xA rs fun r=>K r S Γ T
    | none=>af 121
  | none=>af 122
def DR (f:Nat) (args:List AV) (r:ρ) (enc:ρ→AV) (T:Tr ρ True):Prop :=
  yM C cd ord f args [] T fun a S _ T=>wh S.o a fun a=>match T with
    | .ret x=>x=r∧bB a (enc x)
    | .rp x _ _=>x=r∧bB a (enc x)
    | .rq x=>x=r∧leB 40 a (enc x)=true
    | _=>False
def Ez (f:Nat) (args:List AV) (o:List Ob) (r:ρ) (out:ρ→AV×List Ob) (T:Tr ρ True):Prop :=
  yM C cd ord f args o T fun a S _ T=>bf (ru 4 a&&Nat.beq S.b o.length) (match T with
    | .ret x=>x=r∧(a,S.o)=out x
    | _=>False)
def AF (f:Nat) (args:List AV) (o:List Ob) (r:ρ) (out:ρ→AV×List Ob) (T:Tr ρ True):Prop :=
  yM C cd ord f args o T fun a S _ T=>bf (ru 4 a&&Nat.beq S.b o.length) (match T with
    | .ret x=>x=r∧fin o.length a S.o=out x
    | _=>False)
end
theorem BA {S:St} {d id len ext sz:Nat} {rows:List (List AV)} (hd:S.t[d]?=some (.msl id 0 len ext)) (ho:S.o[id]?=some (.arr true sz rows)) (hb:S.b≤id) :
    dj S { t:=(cV id S).t.set d (.mf id),l:=(cV id S).l,o:=(cV id S).o.set id (.arr true sz (rows.take len)),b:=S.b }:=by
  intro G E a w hM ht
  have hid:id<S.o.length:=(List.getElem?_eq_some_iff.1 ho).1
  obtain ⟨hM1,ht1,_⟩:=lk hM ht hid
  have hgl:(cV id S).o.length=S.o.length:=by simp [cV]
  have hk:aH E.mu (.O id) (.O id)=none:=by unfold aH; rw [if_pos rfl]
  have hdl:d<a.tmps.size:=by rw [← ht.len]; exact (List.getElem?_eq_some_iff.1 hd).1
  have hu:a.tmps[d]?=some a.tmps[d]:=Array.getElem?_eq_getElem hdl
  generalize a.tmps[d]=u at hu
  have hv:=ht.val d _ u hd hu
  have hob:=hM.obj id
  rw [ho] at hob
  obtain ⟨mv,hmv,hval,hmu⟩:∃ mv:MV,eu ⟨E.F,aB (aH E.mu (.O id)) (.O id) mv,E.h⟩ (some (.arr true sz (rows.take len))) (some mv) ∧
      VR ⟨E.F,aB (aH E.mu (.O id)) (.O id) mv,E.h⟩ (.mf id) u∧(mv=.virt∨∃ b o s n n',mv=.blk b o s n∧E.mu (.O id)=some (.blk b o s n')):=by
    have hadd:∀ mv:MV,aB (aH E.mu (.O id)) (.O id) mv (.O id)=some mv:=fun mv=>by unfold aB; rw [if_pos rfl]
    cases hv with
    | msle off x hx =>
      refine ⟨.virt,rfl,?_,.inl rfl⟩
      cases x with
      | none=>exact .mfn (hadd _)
      | some x=>exact .mfe x (hadd _)
    | msl off len ext cap hx h1 h2 h3 =>
      rename_i b o s n
      rw [hx] at hob
      obtain ⟨⟨rfl,hn⟩,har⟩:=hob
      have hl:(rows.take len).length=len:=by rw [List.length_take]; omega
      refine ⟨.blk b o s len,⟨⟨rfl,hl.symm⟩,?_⟩,?_,.inr ⟨b,o,s,len,n,rfl,hx⟩⟩
      · obtain ⟨hs,hr,us,ty,hb,hle,hc⟩:=har
        refine ⟨hs,fun r h=>hr r (List.mem_of_mem_take h),us,ty,hb,?_,fun m c h=>hc m c ?_⟩
        · have:(rows.take len).length * s≤rows.length * s:=Nat.mul_le_mul_right _ (by rw [hl]; omega)
          omega
        · have hp:(rows.take len).flatten <+: rows.flatten:=by
            have:rows.flatten=(rows.take len).flatten++(rows.drop len).flatten:=by rw [← List.flatten_append,List.take_append_drop]
            rw [this]
            exact List.prefix_append _ _
          obtain ⟨z,hz⟩:=hp
          rw [← hz,List.getElem?_append_left (List.getElem?_eq_some_iff.1 h).1]
          exact h
      · have:=VR.mf (E:=⟨E.F,aB (aH E.mu (.O id)) (.O id) (.blk b o s len),E.h⟩) cap (hadd _) (by omega) (by simpa using h3)
        simpa using this
  have hle:LE ⟨E.F,aH E.mu (.O id),E.h⟩ ⟨E.F,aB (aH E.mu (.O id)) (.O id) mv,E.h⟩:=iX (E:=⟨E.F,aH E.mu (.O id),E.h⟩) hk
  refine ⟨⟨E.F,aB (aH E.mu (.O id)) (.O id) mv,E.h⟩,?_,?_⟩
  · refine hM1.addkey (key:=.O id) (mv:=mv) (fun _ h=>by cases h) hk (fun b o s n e=>?_) (fun _ _=>rfl) (fun i hi=>?_) rfl ?_ (fun i e=>?_) (fun _ h=>by cases h) (fun i e=>?_) ?_
    · rcases hmu with rfl | ⟨b',o',s',n1,n2,rfl,hx⟩
      · cases e
      · cases e
        obtain ⟨h1,h2,h3⟩:=hM.own _ _ _ _ _ hx
        refine ⟨h1,h2,h3,fun k o' s' n' h=>?_⟩
        obtain ⟨h4,h5⟩:=bX h
        exact h4 (hM.inj _ _ _ _ _ _ _ _ _ h5 hx)
    · show ((cV id S).o.set id _)[i]?=(cV id S).o[i]?
      rw [List.getElem?_set,if_neg (fun e=>hi (by rw [e]))]
    · show S.b≤((cV id S).o.set id _).length
      have:=hM.bl
      rw [List.length_set,hgl]
      exact this
    · cases e
      exact hb
    · cases e
      show eu _ ((cV id S).o.set id _)[id]? _
      rw [List.getElem?_set,if_pos rfl,if_pos (by rw [hgl]; exact hid)]
      exact hmv
    · intro j h
      rcases h with e | ⟨i,e⟩ <;> cases e
      show c_ _ id ((cV id S).o.set id _)[id]?
      rw [List.getElem?_set,if_pos rfl,if_pos (by rw [hgl]; exact hid)]
      refine hM1.ow_new (mv:=mv) rfl ?_ rfl
      have:(cV id S).o[id]?=some .dead:=by
        show ((S.o.map (dl (.O id))).set id .dead)[id]?=_
        rw [List.getElem?_set,if_pos rfl,if_pos (by simpa using hid)]
      rw [this]
      rfl
  · have ht2:=ht1.mono hle
    refine ⟨by simpa using ht2.len,fun n c v h1 h2=>?_,ht2.df,ht2.gt⟩
    have h1':((cV id S).t.set d (.mf id))[n]?=some c:=h1
    rw [List.getElem?_set] at h1'
    split at h1'
    · rename_i e
      subst e
      split at h1'
      · cases h1'
        rw [hu] at h2
        cases h2
        exact hval
      · cases h1'
    · exact ht2.val n c v h1' h2
theorem j2:∀ (ds:List Nat) (S:St),dj S (ua ds S)
  | [],S=>.refl S
  | d::ds,S=>by
    unfold ua
    split
    · rename_i hd
      split
      · rename_i ho
        split
        · rename_i hb
          exact (BA hd ho (Nat.le_of_ble_eq_true hb)).trans (j2 ds _)
        · exact j2 ds S
      · exact j2 ds S
    · exact j2 ds S
section
variable {ρ:Type}
theorem rV {k:Nat} {Γ:Prop} (T:Tr ρ Γ) {F:dh→TK ρ} (h:uY k T F):∃ A Γ' T',F A Γ' T':=by
  induction T with
  | op j A r=>
    unfold uY at h
    split at h <;> exact ⟨_,_,_,h⟩
  | ite j b t e iht ihe =>
    unfold uY at h
    split at h
    · rcases h with ⟨_,h⟩ | ⟨_,h⟩
      · exact iht h
      · exact ihe h
    · exact ⟨_,_,_,h⟩
  | bind j m f ih =>
    unfold uY at h
    split at h
    · obtain ⟨x,_,h⟩:=h
      exact ih x h
    · exact ⟨_,_,_,h⟩
  | alt j y f g ihf ihg =>
    unfold uY at h
    split at h
    · rcases h with ⟨x,_,h⟩ | ⟨x,_,h⟩
      · exact ihf x h
      · exact ihg x h
    · exact ⟨_,_,_,h⟩
  | opt j y a f iha ihf =>
    unfold uY at h
    split at h
    · rcases h with ⟨_,h⟩ | ⟨x,_,h⟩
      · exact iha h
      · exact ihf x h
    · exact ⟨_,_,_,h⟩
  | bad=>exact False.elim h
  | _=>exact ⟨_,_,_,h⟩
theorem AG {k:Nat} {Γ:Prop} (T:Tr ρ Γ) {F:Option (Option (Wk×Le×Ex×St))→TK ρ} (h:AE k T F):∃ x Γ' T',F x Γ' T':=by
  induction T with
  | lp j W L e S r =>
    unfold AE at h
    split at h <;> exact ⟨_,_,_,h⟩
  | un j r =>
    unfold AE at h
    split at h <;> exact ⟨_,_,_,h⟩
  | ite j b t e iht ihe =>
    unfold AE at h
    split at h
    · rcases h with ⟨_,h⟩ | ⟨_,h⟩
      · exact iht h
      · exact ihe h
    · exact ⟨_,_,_,h⟩
  | bind j m f ih =>
    unfold AE at h
    split at h
    · obtain ⟨x,_,h⟩:=h
      exact ih x h
    · exact ⟨_,_,_,h⟩
  | alt j y f g ihf ihg =>
    unfold AE at h
    split at h
    · rcases h with ⟨x,_,h⟩ | ⟨x,_,h⟩
      · exact ihf x h
      · exact ihg x h
    · exact ⟨_,_,_,h⟩
  | bad=>exact False.elim h
  | _=>exact ⟨_,_,_,h⟩
theorem AH {S:St} {K:St→TK ρ} {Γ:Prop} {T:Tr ρ Γ} (h:Ft S K T):∃ S' Γ' T',dj S S'∧K S' Γ' T':=by
  unfold Ft at h
  split at h
  · obtain ⟨S2,h1,h⟩:=kn h
    exact ⟨S2,_,_,(nj _ _).trans h1,h⟩
  · exact ⟨S,_,_,.refl S,h⟩
theorem AI {S:St} {K:St→TK ρ} {Γ:Prop} {T:Tr ρ Γ} (h:Ey S K T):∃ S' Γ' T',dj S S'∧K S' Γ' T':=by
  induction T with
  | wr ds L r =>
    obtain ⟨S2,h1,h⟩:=kn h
    exact ⟨S2,_,_,(j2 ds S).trans h1,h⟩
  | ite j b t e iht ihe =>
    unfold Ey at h
    split at h
    · rcases h with ⟨_,h⟩ | ⟨_,h⟩
      · exact iht h
      · exact ihe h
    · exact ⟨S,_,_,.refl S,h⟩
  | bad=>exact False.elim h
  | _=>exact ⟨S,_,_,.refl S,h⟩
variable {C:Ctx} {cd:Df} {ord:List (Nat×PT)} {pl:bi}
theorem lK {G:Gh} (hO:tO C) (hC:dx C) {rr:Option Nat} {all:Array Oper} {Q:Exit→Act→World→Prop}:∀ {ops:List Oper} {E:Env} {S:St} {w:World} {a:Act} {Γ:Prop} {T:Tr ρ Γ} {K:St→TK ρ},ai G pn E S w→TR E S.t a→w_ C pl all ops S Γ T K →
    (∀ S' Γ' T' E' a' w',K S' Γ' T'→ai G pn E' S' w'→TR E' S'.t a'→Q .normal a' w')→wpListIn (rd rr) 0 C.P all Q ops a w
  | [],E,S,w,a,Γ,T,K,hM,ht,h,hQ=>hQ _ _ _ _ _ _ h hM ht
  | o::rest,E,S,w,a,Γ,T,K,hM,ht,h,hQ=>by
    have step:∀ {S1:St},ai G pn E S1 w→TR E S1.t a→Region.wanted o (yielded all a.tmps)=true→(uY (keyOf o) T fun A Γ T=>DJ C A pl o S1 fun S'=>w_ C pl all rest S' Γ T K)→wpListIn (rd rr) 0 C.P all Q (o::rest) a w:=by
      intro S1 hM1 ht1 hw h
      obtain ⟨A,Γ',T',h⟩:=rV _ h
      unfold wpListIn
      rw [if_pos hw]
      refine vD (zp (rR hO h)) (qt hC hM1 ht1 (rR hO h) _ _ (fun S' E' a' w' hk hS htr=>?_))
      exact lK hO hC hS htr hk hQ
    unfold w_ at h
    split at h
    · rename_i hg
      have hw:Region.wanted o (yielded all a.tmps)=true:=by unfold Region.wanted; rw [hg]
      unfold F7 at h
      split at h
      · split at h
        · unfold wpListIn
          rw [if_pos hw]
          split at h
          · rename_i op t x yt ho
            split at h
            · rename_i e hu
              obtain ⟨c,h,hc⟩:=cw h ht
              split at h
              · rename_i rows
                obtain ⟨hop,h1,h2⟩:=ac h
                obtain ⟨b,hrun,hbr⟩:=rj hop hu hc w x (.const (.slice none 0 0))
                have hex:(execOp a.eval o).run C.P w=.ok (.value (.bool b)) w:=by
                  have:(execOp a.eval o)=(do pure (.value (← (do eqGuard op t x (.const (.slice none 0 0)) (a.eval x) (.slice none 0 0); binOp op t (a.eval x) (.slice none 0 0):Sem Value)))):=by
                    unfold execOp
                    rw [ho]
                    simp [Act.eval]
                  rw [this,Sem.run_bind,hrun]
                  rfl
                refine vD (fun c hc=>by rw [ho] at hc; cases hc) (cR hex ?_)
                have h3:∃ Γ' T',bc o.dst (.v (.bool b)) S fun S'=>w_ C pl all rest S' Γ' T' K:=by
                  rcases hbr with ⟨rfl,hr⟩ | rfl
                  · exact ⟨_,_,h1 hr⟩
                  · exact ⟨_,_,h2⟩
                obtain ⟨Γ',T',h3⟩:=h3
                rw [aD] at h3
                exact lK hO hC (hM.congr bY bZ cb) (ht.put (.v _ _ rfl)) h3 hQ
              · exact False.elim h
            · exact False.elim h
          · exact False.elim h
        · exact step hM ht hw h
      · exact step hM ht hw h
    · rename_i j want hg
      split at h
      · exact False.elim h
      · rename_i d hd
        obtain ⟨b,S1,h,hb,hM1,ht1⟩:=jl hM ht h
        rcases kg hg (lq hd hb) h with ⟨hw,h⟩ | ⟨hw,h⟩
        · exact step hM1 ht1 hw h
        · rw [aD] at h
          unfold wpListIn
          rw [if_neg (by rw [hw]; exact fun h=>by cases h)]
          exact ⟨fun _ _=>trivial,lK hO hC (hM1.congr bY bZ cb) (ht1.put (pG _)) h hQ⟩
theorem AJ (hC:tO C) {ops:Array Oper} {i:Nat} {S:St} {Γ:Prop} {T:Tr ρ Γ} {K:St→TK ρ} (h:ET C pl ops i S Γ T K):∃ S1 Γ1 T1,vg C pl ops i S (fun S'=>S'=S1)∧K S1 Γ1 T1:=by
  unfold ET at h
  unfold vg
  split at h
  · exact False.elim h
  · rename_i o ho
    rw [ho]
    dsimp only
    unfold tag at h
    unfold ag
    have key:∀ {S:St},bf (iB pl ops o S) (uY (keyOf o) T fun A Γ T=>yx C A pl o S fun S'=>K S' Γ T)→∃ S1 Γ1 T1,nS C pl ops o S (fun S'=>S'=S1)∧K S1 Γ1 T1:=by
      intro S h
      obtain ⟨h1,h⟩:=ac h
      obtain ⟨A,Γ',T',h⟩:=rV _ h
      obtain ⟨S1,h2,h3⟩:=gd hC.det _ (tY hC h)
      exact ⟨S1,Γ',T',au h1 (h3 _ rfl),h2⟩
    split at h
    · rename_i hg
      rw [hg]
      exact key h
    · rename_i j want hg
      rw [hg]
      dsimp only
      split at h
      · exact False.elim h
      · rename_i d hd
        rw [hd]
        dsimp only
        obtain ⟨b,S1,h1,h2⟩:=cT _ h
        unfold gsel at h1
        have h3:∃ S2 Γ2 T2,gsel b want (nS C pl ops o S1 fun S'=>S'=S2) (bc o.dst (.tup []) S1 fun S'=>S'=S2)∧K S2 Γ2 T2:=by
          unfold gsel
          split at h1
          · exact key h1
          · exact key h1
          · rw [aD] at h1
            exact ⟨_,_,_,(aD).2 rfl,h1⟩
        obtain ⟨S2,Γ2,T2,h3,h4⟩:=h3
        exact ⟨S2,Γ2,T2,h2 (fun b S1=>gsel b want (nS C pl ops o S1 fun S'=>S'=S2) (bc o.dst (.tup []) S1 fun S'=>S'=S2)) h3,h4⟩
theorem xe (hC:tO C) {ops:Array Oper} {ws:List Nat}:∀ {n a:Nat} {listed:Array Bool} {t:PT} {S:St} {Γ:Prop} {T:Tr ρ Γ} {K:St→TK ρ},je pl ops ws n a listed=some t→tT C pl ops t none S Γ T K→∃ S1 Γ1 T1,iV C pl ops ws n listed S (fun S'=>S'=S1)∧K S1 Γ1 T1
  | 0,a,listed,t,S,Γ,T,K,hp,h=>by
    unfold je at hp
    unfold iV
    split at hp
    · cases hp
      rename_i hr
      rw [hr]
      exact ⟨S,Γ,T,rfl,h⟩
    · cases hp
  | n + 1,a,listed,t,S,Γ,T,K,hp,h=>by
    unfold je at hp
    unfold iV
    split at hp
    · cases hp
      rename_i hr
      rw [hr]
      exact ⟨S,Γ,T,rfl,h⟩
    · rename_i r rs hr
      rw [hr]
      dsimp only
      have step:∀ {k b:Nat} {u:PT} {S:St} {Γ:Prop} {T:Tr ρ Γ} {K:St→TK ρ},je pl ops ws n b (listed.setIfInBounds k true)=some u→(ET C pl ops k S Γ T fun S' Γ T=>tT C pl ops u none S' Γ T K)→∃ S1 Γ1 T1,(vg C pl ops k S fun S'=>iV C pl ops ws n (listed.setIfInBounds k true) S' fun S''=>S''=S1)∧K S1 Γ1 T1:=by
        intro k b u S Γ T K hj h
        obtain ⟨S2,Γ2,T2,h1,h2⟩:=AJ hC h
        obtain ⟨S3,Γ3,T3,h3,h4⟩:=xe hC hj h2
        exact ⟨S3,Γ3,T3,ay.mono (eG hC.det) h1 (fun S' e=>by rw [e]; exact h3),h4⟩
      have alts:∀ {b:Nat} {is:List Nat} {u:PT} {S S1:St} {Γ:Prop} {T:Tr ρ Γ} {K:St→TK ρ},nG (fun i=>je pl ops ws n b (listed.setIfInBounds i true)) is=some u→tT C pl ops u (some S1) S Γ T K →
          (za (fun i K'=>vg C pl ops i S fun S'=>iV C pl ops ws n (listed.setIfInBounds i true) S' K') is S1 (S1=S1))∧∃ Γ1 T1,K S1 Γ1 T1:=by
        intro b is
        induction is with
        | nil =>
          intro u S S1 Γ T K hu h
          unfold nG at hu
          cases hu
          exact ⟨rfl,_,_,h⟩
        | cons i is ih =>
          intro u S S1 Γ T K hu h
          unfold nG at hu
          split at hu
          · rename_i v hv
            split at hu
            · rename_i w hw
              cases hu
              obtain ⟨S2,Γ2,T2,h1,h2,h3⟩:=step hv h
              subst h2
              obtain ⟨h4,h5⟩:=ih hw h3
              exact ⟨ay.mono (ay.bind (eG hC.det) (fun S'=>ez hC.det _ _ _)) h1 (fun S' e=>yH ⟨e,h4⟩),h5⟩
            · cases hu
          · cases hu
      split at hp
      · rename_i k hk
        rw [hk]
        dsimp only
        split at hp
        · cases hp
          rename_i u hj
          exact step hj h
        · cases hp
      · rename_i hk
        rw [hk]
        dsimp only
        split at hp
        · split at hp
          · cases hp
            rename_i u hj
            exact step hj h
          · cases hp
        · split at hp
          · rename_i b _ _
            unfold nG at hp
            split at hp
            · rename_i v hv
              split at hp
              · rename_i w hw
                cases hp
                obtain ⟨S1,Γ1,T1,h1,h2⟩:=step hv h
                obtain ⟨h3,Γ2,T2,h4⟩:=alts hw h2
                exact ⟨S1,Γ2,T2,ay.mono (ay.bind (eG hC.det) (fun S'=>ez hC.det _ _ _)) h1 (fun S' e=>by subst e; exact h3),h4⟩
              · cases hp
            · cases hp
          · cases hp
theorem CG (hC:tO C) {ops:Array Oper} {ws:List Nat}:∀ {n:Nat} {listed:Array Bool} {t:PT} {S:St} {Γ:Prop} {T:Tr ρ Γ} {K:St→TK ρ},v0 pl ops ws n listed=some t→tT C pl ops t none S Γ T K→∃ S1 Γ1 T1,rx C pl ops ws n listed S (fun S'=>S'=S1)∧K S1 Γ1 T1
  | 0,listed,t,S,Γ,T,K,hp,h=>xe hC (n:=0) hp h
  | n + 1,listed,t,S,Γ,T,K,hp,h=>by
    unfold v0 at hp
    unfold rx
    split at hp
    · rename_i i hi
      rw [hi]
      dsimp only
      split at hp
      · cases hp
        rename_i u hj
        obtain ⟨S2,Γ2,T2,h1,h2⟩:=AJ hC h
        obtain ⟨S3,Γ3,T3,h3,h4⟩:=CG hC hj h2
        exact ⟨S3,Γ3,T3,ay.mono (eG hC.det) h1 (fun S' e=>by rw [e]; exact h3),h4⟩
      · cases hp
    · rename_i hi
      rw [hi]
      exact xe hC hp h
theorem CH (hC:tO C) {ops:Array Oper} {t:PT} {S:St} {Γ:Prop} {T:Tr ρ Γ} {K:St→TK ρ} (hp:tH pl ops=some t) (h:tT C pl ops t none S Γ T K):∃ S1 Γ1 T1,uz C pl ops S (fun S'=>S'=S1)∧K S1 Γ1 T1:=by
  unfold tH at hp
  unfold uz
  split at hp
  · cases hp
  · rename_i hn
    split at hp
    · rename_i hc
      rw [hc]
      obtain ⟨S1,Γ1,T1,h1,h2⟩:=xe hC hp h
      exact ⟨S1,Γ1,T1,au hn h1,h2⟩
    · rename_i hc
      rw [hc]
      obtain ⟨S1,Γ1,T1,h1,h2⟩:=CG hC hp h
      exact ⟨S1,Γ1,T1,au hn h1,h2⟩
theorem rm:∀ {ids:List Nat} {S:St} {Γ:Prop} {T:Tr ρ Γ} {K:St→TK ρ},xd ids S Γ T K→∃ S1 Γ1 T1,lf ids S (fun S'=>S'=S1)∧K S1 Γ1 T1
  | [],S,Γ,T,_,h=>⟨S,Γ,T,rfl,h⟩
  | _::_,_,_,_,_,h=>by
    obtain ⟨A,Γ',T',h⟩:=rV _ h
    obtain ⟨S1,h1,h2⟩:=lz _ (nJ h)
    obtain ⟨S2,Γ2,T2,h3,h4⟩:=rm h1
    exact ⟨S2,Γ2,T2,h2 _ h3,h4⟩
theorem p0:∀ {ids:List Nat} {S:St} {Γ:Prop} {T:Tr ρ Γ} {K:St→TK ρ},uc ids S Γ T K→∃ S1 Γ1 T1,jL ids S (fun S'=>S'=S1)∧K S1 Γ1 T1
  | [],S,Γ,T,_,h=>⟨S,Γ,T,rfl,h⟩
  | _::_,_,_,_,_,h=>by
    obtain ⟨A,Γ',T',h⟩:=rV _ h
    obtain ⟨S1,h1,h2⟩:=mN _ (pX h)
    obtain ⟨S2,Γ2,T2,h3,h4⟩:=p0 h1
    exact ⟨S2,Γ2,T2,h2 _ h3,h4⟩
theorem v4 {id:Nat} {S:St} {Γ:Prop} {T:Tr ρ Γ} {K:St→TK ρ} (h:yL pl id S Γ T K):∃ S1 Γ1 T1,jc pl id S (fun S'=>S'=S1)∧K S1 Γ1 T1:=by
  unfold yL at h
  unfold jc
  split at h
  · rename_i hc
    rw [hc]
    exact ⟨S,_,_,rfl,h⟩
  · rename_i hc
    rw [hc]
    dsimp only
    obtain ⟨S1,Γ1,T1,h1,h2⟩:=rm h
    split at h2
    · rename_i hf
      refine ⟨S1,Γ1,T1,ay.mono (i0 _ _) h1 (fun S' e=>?_),h2⟩
      rw [hf]
      exact e
    · rename_i hf
      obtain ⟨S2,Γ2,T2,h3,h4⟩:=p0 h2
      refine ⟨S2,Γ2,T2,ay.mono (i0 _ _) h1 (fun S' e=>?_),h4⟩
      rw [hf,e]
      exact h3
def GH (G:Gh) (K:Ex→St→TK ρ) (Q:Exit→Act→World→Prop):Prop:=∀ e S' Γ' T' E' a' w',K e S' Γ' T'→ai G pn E' S' w'→TR E' S'.t a'→Q (C4 e) a' w'
theorem mW {cfg:m7} (hmix:cfg.P.follows .mixedOrders=true) {pl:bi}:∀ (c:Code) {S:St} {Γ:Prop} {T:Tr ρ Γ} {K:Ex→St→TK ρ},i_ pl ord c=true→lX (gF cfg) (dq cfg.P) ord pl c S Γ T K →
    ∀ (r:Option Nat) (G:Gh) (E:Env) (a:Act) (w:World) (Q:Exit→Act→World→Prop),ai G pn E S w→TR E S.t a→GH G K Q→c.wpIn (rd r) 0 cfg.P Q a w:=by
  have hC:=yI cfg
  intro c
  induction c with
  | skip=>exact fun _ h r G E a w Q hM ht hQ=>wpIn_skip (hQ .nrm _ _ _ E _ _ h hM ht)
  | region id ops draw =>
    intro S Γ T K hB h r G E a w Q hM ht hQ
    cases draw with
    | false =>
      refine wpIn_region_list (lK hC (jC cfg) hM ht h (fun S' Γ' T' E' a' w' hk hS htr=>?_))
      obtain ⟨S1,Γ1,T1,h1,h2⟩:=v4 hk
      obtain ⟨S3,E3,rfl,hS,htr⟩:=j_ hS htr h1
      obtain ⟨S2,Γ2,T2,hw,hk⟩:=AI h2
      obtain ⟨E2,hM2,ht2⟩:=hw G E3 a' w' hS htr
      exact hQ .nrm _ _ _ _ _ _ hk hM2 ht2
    | true =>
      unfold i_ at hB
      have h':(match o8 ord id with
      | some is=>bf (qR pl ops) (uA (gF cfg).P (bR ops.toList) S fun S1=>tT (gF cfg) pl ops is none S1 Γ (FF id T) fun S' Γ T=>jM (bR ops.toList) S' (yL pl id S' Γ T fun S'' _ T=>Ey S'' (K .nrm) T))
      | none=>af 440):=h
      split at hB
      · rename_i is js h1 h2
        rw [h1] at h'
        dsimp only at h'
        obtain ⟨h3,h'⟩:=ac h'
        obtain ⟨S1,h4,h5⟩:=ta _ h'
        rw [pY hB] at h4
        obtain ⟨S2,Γ2,T2,h6,h7⟩:=CH hC h2 h4
        obtain ⟨h8,h9⟩:=kS h7
        obtain ⟨S3,Γ3,T3,h10,h11⟩:=v4 h8
        refine kU hmix pl id ops S (fun e S'=>e=.nrm∧S'=S3) ?_ r G E a w Q hM ht (fun e S' E' a' w' hk hS htr=>?_)
        · refine au h3 (h5 _ (ay.mono (tc hC.det) h6 (fun S' e=>?_)))
          subst e
          exact h9 _ (ay.mono nf h10 (fun S' e=>⟨rfl,e⟩))
        · obtain ⟨rfl,rfl⟩:=hk
          obtain ⟨S4,Γ4,T4,hw,hk⟩:=AI h11
          obtain ⟨E2,hM2,ht2⟩:=hw G E' a' w' hS htr
          exact hQ .nrm _ _ _ _ _ _ hk hM2 ht2
      · cases hB
  | seq x y ihx ihy =>
    intro S Γ T K hB h r G E a w Q hM ht hQ
    unfold i_ at hB
    rw [Bool.and_eq_true] at hB
    refine wpIn_seq (ihx hB.1 h r G E a w _ hM ht (fun e S' Γ' T' E' a' w' hk hS htr=>?_))
    cases e with
    | nrm =>
      obtain ⟨x,Γ1,T1,hk⟩:=AG _ hk
      split at hk
      · obtain ⟨S2,h1,⟨e2,S3,h2,h3,h4⟩,h5⟩:=kn hk
        subst h3 h4
        obtain ⟨E2,hM2,ht2⟩:=((nj _ _).trans h1) G E' a' w' hS htr
        refine h2 r G E2 a' w' Q hM2 ht2 (fun e' S'' E'' a'' w'' he hS' ht'=>?_)
        obtain ⟨rfl,rfl⟩:=he
        exact hQ _ _ _ _ _ _ _ h5 hS' ht'
      · exact ihy hB.2 hk r G E' a' w' Q hS htr hQ
    | ex i=>exact hQ (.ex i) _ _ _ _ _ _ hk hS htr
    | ret=>exact hQ .ret _ _ _ _ _ _ hk hS htr
  | cond c x y ihx ihy =>
    intro S Γ T K hB h r G E a w Q hM ht hQ
    unfold i_ at hB
    rw [Bool.and_eq_true] at hB
    obtain ⟨b,S1,h1,h2,h3,h4⟩:=mG hM ht h
    cases b with
    | true=>exact wpIn_cond_true h2 (ihx hB.1 h1 r G E a w Q h3 h4 hQ)
    | false=>exact wpIn_cond_false h2 (ihy hB.2 h1 r G E a w Q h3 h4 hQ)
  | block id c ih =>
    intro S Γ T K hB h r G E a w Q hM ht hQ
    refine wpIn_block (ih hB h r G E a w _ hM ht (fun e S' Γ' T' E' a' w' hk hS htr=>?_))
    cases e with
    | nrm=>exact hQ .nrm _ _ _ _ _ _ hk hS htr
    | ret=>exact hQ .ret _ _ _ _ _ _ hk hS htr
    | ex i =>
      show Exit.inBlock id Q (.exit i) a' w'
      unfold Exit.inBlock
      dsimp only at hk
      split at hk
      · rename_i hb
        have:=Nat.eq_of_beq_eq_true hb
        subst this
        simp only [if_pos]
        exact hQ .nrm _ _ _ _ _ _ hk hS htr
      · rename_i hb
        have hne:¬ i=id:=fun e=>by subst e; simp at hb
        simp only [if_neg hne]
        exact hQ (.ex i) _ _ _ _ _ _ hk hS htr
  | loop c ih =>
    intro S Γ T K hB h r G E a w Q hM ht hQ
    have h':(AE (nH c + 3000000) T fun x Γ T=>match x with
    | some (some (W,L,e,S1))=>Cg L (wk W S) fun S2=>((gF cfg).loop pl c S2 fun e' S'=>e'=e∧S'=S1)∧K e S1 Γ T
    | some none=>Dm (lX (gF cfg) (dq cfg.P) ord pl c) 40 S Γ T K
    | none=>af 471):=h
    clear h
    obtain ⟨x,Γ1,T1,h⟩:=AG _ h'
    split at h
    · obtain ⟨S2,h1,h2,h3⟩:=kn h
      obtain ⟨E2,hM2,ht2⟩:=((nj _ _).trans h1) G E a w hM ht
      refine jD cfg pl c S2 _ h2 r G E2 a w Q hM2 ht2 (fun e' S'' E'' a'' w'' he hS' ht'=>?_)
      obtain ⟨rfl,rfl⟩:=he
      exact hQ _ _ _ _ _ _ _ h3 hS' ht'
    · have run:∀ (n:Nat) {S:St} {Γ:Prop} {T:Tr ρ Γ},Dm (lX (gF cfg) (dq cfg.P) ord pl c) n S Γ T K→∀ (E:Env) (a:Act) (w:World),ai G pn E S w→TR E S.t a→Code.roundsIn (rd r) 0 cfg.P c Q n a w:=by
        intro n
        induction n with
        | zero=>exact fun h=>False.elim h
        | succ n ihn =>
          intro S Γ T h E a w hM ht
          refine ih hB h r G E a w _ hM ht (fun e S' Γ' T' E' a' w' hk hS htr=>?_)
          cases e with
          | nrm=>exact ihn hk E' a' w' hS htr
          | ex i=>exact hQ (.ex i) _ _ _ _ _ _ hk hS htr
          | ret=>exact hQ .ret _ _ _ _ _ _ hk hS htr
      exact wpIn_loop_rounds 40 (run 40 h E a w hM ht)
    · exact False.elim h
  | exit id=>exact fun _ h r G E a w Q hM ht hQ=>wpIn_exit (hQ (.ex id) _ _ _ E _ _ h hM ht)
  | ret=>exact fun _ h r G E a w Q hM ht hQ=>wpIn_ret (hQ .ret _ _ _ E _ _ h hM ht)
  | _=>exact fun _ h=>False.elim h
theorem dq.ofT {cfg:m7} (hmix:cfg.P.follows .mixedOrders=true) {pl:bi} {c:Code} {S:St} {out:ρ→Ex×St} {r:ρ} {T:Tr ρ True} (hB:i_ pl ord c=true)
    (h:CF (gF cfg) (dq cfg.P) ord pl c S r out T):dq cfg.P c S fun e S'=>(e,S')=out r:=by
  refine ⟨(out r).1,(out r).2,fun r G E a w Q hM ht hQ=>?_,rfl⟩
  refine mW hmix c hB h r G E a w Q hM ht (fun e' S' Γ' T' E' a' w' hk hS htr=>?_)
  obtain ⟨S2,Γ2,T2,hw,hk⟩:=AH hk
  obtain ⟨E2,hM2,ht2⟩:=hw G E' a' w' hS htr
  split at hk
  · obtain ⟨rfl,h2⟩:=hk
    rw [← h2] at hQ
    exact hQ _ _ _ _ _ ⟨rfl,rfl⟩ hM2 ht2
  · exact False.elim hk
theorem Fu {α β:Type} {out:α⊕β→Ex×St} (h:∀ a,(out (.inl a)).1≠.nrm) (k:∀ b,(out (.inr b)).1≠.nrm):∀ t,(out t).1≠.nrm
  | .inl a=>h a
  | .inr b=>k b
theorem dq.ofL {cfg:m7} (hmix:cfg.P.follows .mixedOrders=true) {pl:bi} {c:Code} {S:St} {σ τ:Type} {Sf:σ→St} {out:τ→Ex×St} (hne:∀ t,(out t).1≠.nrm) {r:σ⊕τ} {T:Tr (σ⊕τ) True} (hB:i_ pl ord c=true)
    (h:DN (gF cfg) (dq cfg.P) ord pl c S r Sf out T):dq cfg.P c S (rk Sf out r):=by
  have key:∀ (q:Ex×St),(∀ s,r=.inl s→q=(.nrm,Sf s))→(∀ t,r=.inr t→q=out t)→∀ (r':Option Nat) (G:Gh) (E:Env) (a:Act) (w:World) (Q:Exit→Act→World→Prop),ai G pn E S w→TR E S.t a→B2 G (fun e' S''=>e'=q.1∧S''=q.2) Q→c.wpIn (rd r') 0 cfg.P Q a w:=by
    intro q h1 h2 r' G E a w Q hM ht hQ
    refine mW hmix c hB h r' G E a w Q hM ht (fun e' S' Γ' T' E' a' w' hk hS htr=>?_)
    obtain ⟨S2,Γ2,T2,hw,hk⟩:=AH hk
    obtain ⟨E2,hM2,ht2⟩:=hw G E' a' w' hS htr
    split at hk
    · split at hk
      · split at hk
        · obtain ⟨h3,rfl⟩:=hk
          have:=h1 _ h3.symm
          exact hQ .nrm _ _ _ _ ⟨by rw [this],by rw [this]⟩ hM2 ht2
        · exact False.elim hk
      · split at hk
        · exact False.elim hk
        · obtain ⟨h3,h4⟩:=hk
          have:=h2 _ h3.symm
          exact hQ _ _ _ _ _ ⟨by rw [this,← h4],by rw [this,← h4]⟩ hM2 ht2
    · exact False.elim hk
  cases r with
  | inl s=>exact ⟨.nrm,Sf s,key (.nrm,Sf s) (fun _ e=>by cases e; rfl) (fun _ e=>by cases e),GG⟩
  | inr t=>exact ⟨(out t).1,(out t).2,key (out t) (fun _ e=>by cases e) (fun _ e=>by cases e; rfl),hne t,rfl,rfl⟩
theorem mX {cfg:m7} (hN:jS cfg.P) (hmix:cfg.P.follows .mixedOrders=true) {f:Nat} {args:List AV} {o:List Ob} {T:Tr ρ True} {K:AV→St→TK ρ} (hB:i_ (cfg.pol f) ord (fI cfg.P f)=true) (h:yM (gF cfg) (dq cfg.P) ord f args o T K) :
    pt cfg.P f∧∀ (G:Gh) (E:Env) (w:World) (us:Array Value),ai G pn E (xo o o.length) w→yX E→bI E args us.toList→Calls cfg.P f us w fun e w'=>∃ v r S' E',(∃ Γ' T',K r S' Γ' T')∧e=.returned v∧ai G pn E' S' w'∧VR E' r v:=by
  unfold yM at h
  split at h
  · rename_i fn hf
    split at h
    · rename_i c hb
      have hb0:cfg.P.funcs[f]?=some fn:=hf
      refine ⟨⟨fn,c,hb0,hb,hN f fn hb0⟩,fun G E w us hM hg hv=>?_⟩
      refine sV.1 (callsIn_of_wp (F:=rd none) (n:=0) hb0 hb trivial ?_)
      have hl:args.length=us.size:=by simpa using hv.1
      unfold fI at hB
      rw [hb0] at hB
      dsimp only at hB
      rw [hb] at hB
      refine mW hmix c hB h none G E _ w _ (hM.congr rfl rfl rfl) ⟨?_,fun n c' u h1 h2=>?_,rfl,hg⟩ (fun e S' Γ' T' E' a' w' hk hS htr=>?_)
      · simp [sX,hl]
      · dsimp only at h1 h2
        by_cases hn:n<args.length
        · rw [List.getElem?_append_left hn] at h1
          rw [Array.getElem?_append_left (by omega)] at h2
          exact hv.2 n c' u h1 (by simpa using h2)
        · rw [List.getElem?_append_right (by omega)] at h1
          rw [sW h1]
          exact .bad _ _
      · cases e with
        | ex i=>exact False.elim hk
        | nrm =>
          obtain ⟨r,u,hk',hr,hrun⟩:=iQ (k:=fun r=>K r S' Γ' T') hS htr hk
          exact ⟨htr.df,u,hrun,u,r,S',E',⟨_,_,hk'⟩,rfl,hS,hr⟩
        | ret =>
          obtain ⟨r,u,hk',hr,hrun⟩:=iQ (k:=fun r=>K r S' Γ' T') hS htr hk
          exact ⟨htr.df,u,hrun,u,r,S',E',⟨_,_,hk'⟩,rfl,hS,hr⟩
    · exact False.elim h
  · exact False.elim h
theorem dz.ofT {cfg:m7} (hN:jS cfg.P) (hmix:cfg.P.follows .mixedOrders=true) {f:Nat} {args:List AV} {r:ρ} {enc:ρ→AV} {T:Tr ρ True} (hB:i_ (cfg.pol f) ord (fI cfg.P f)=true) (h:DR (gF cfg) (dq cfg.P) ord f args r enc T):dz cfg.P f args (fun x=>x=enc r):=by
  obtain ⟨h1,h2⟩:=mX hN hmix hB h
  refine ⟨enc r,⟨h1,fun F w us hF hg hv=>?_⟩,rfl⟩
  have hM:ai { w0:=w,M:=fun _=>False,F:=F,mu:=fun _=>none } pn ⟨F,fun _=>none,w.heap⟩ (xo [] 0) w :=
    ⟨rfl,rfl,rfl,rfl,Nat.le_refl _,fun _ _ _=>rfl,fun _ h=>h,hF,fun _ h _=>.inl h,fun _ _ _ _ _ h=>(by cases h),fun _ _ _ _ _ _ _ _ _ h _=>(by cases h),fun _=>rfl,fun _=>trivial,fun _ h=>(by cases h),Nat.le_refl _,fun _ _=>rfl,fun _ _ h=>(by cases h),fun _ _=>rfl⟩
  refine (h2 _ _ w us hM hg hv).mono ?_
  rintro e w' ⟨v,c,S',E',⟨Γ',T',hk⟩,rfl,hS,hr⟩
  unfold wh at hk
  split at hk
  · rename_i b hb
    rw [bW] at hk
    have hd:=fq hS _ hb hr (ids:=cN S'.o 6 c) (fun i hi=>hi)
    have hle:bB b (enc r):=by
      split at hk
      · obtain ⟨rfl,h3⟩:=hk
        exact h3
      · obtain ⟨rfl,h3⟩:=hk
        exact h3
      · obtain ⟨rfl,h3⟩:=hk
        exact t_ _ _ _ h3
      · exact False.elim hk
    refine ⟨v,FD E' (cN S'.o 6 c),rfl,?_,⟨hS.os,hS.tape,hS.output,hS.size,fun b' hb'=>hS.keep b' hb' (fun h=>h)⟩,fun b' h=>.inl (hS.F0 b' h),BU hS,fun b' h hlt=>?_⟩
    · have e:(⟨FD E' (cN S'.o 6 c),fun _=>none,w'.heap⟩:Env)=E'.fd (cN S'.o 6 c):=by
        unfold Env.fd
        rw [hS.hp]
      rw [e]
      exact hle _ _ hd
    · rcases h with h | ⟨id,_,o',s,n,h⟩
      · rcases hS.Fnew b' h hlt with h3 | h3
        · exact h3
        · exact h3.elim
      · rcases (hS.own _ _ _ _ _ h).2.2 with h3 | h3
        · exact h3.elim
        · have h3:w.heap.size≤b':=h3
          omega
  · exact False.elim hk
theorem SD.ofT {cfg:m7} (hN:jS cfg.P) (hmix:cfg.P.follows .mixedOrders=true) {f:Nat} {args:List AV} {o:List Ob} {r:ρ} {out:ρ→AV×List Ob} {T:Tr ρ True} (hB:i_ (cfg.pol f) ord (fI cfg.P f)=true) (h:Ez (gF cfg) (dq cfg.P) ord f args o r out T):SD cfg.P f args o (fun r' o'=>r'=(out r).1∧o'=(out r).2):=by
  obtain ⟨h1,h2⟩:=mX hN hmix hB h
  refine ⟨(out r).1,(out r).2,⟨h1,fun E w us hM hg hv=>(h2 _ E w us hM hg hv).mono ?_⟩,rfl,rfl⟩
  rintro e w' ⟨v,c,S',E',⟨Γ',T',hk⟩,rfl,hS,hr⟩
  obtain ⟨hb,hk⟩:=ac hk
  split at hk
  · obtain ⟨rfl,h5⟩:=hk
    rw [← h5]
    simp only [Bool.and_eq_true] at hb
    have:=hS.obj_only
    rw [Nat.eq_of_beq_eq_true hb.2] at this
    exact ⟨v,c,S'.o,E'.ob,⟨rfl,rfl⟩,rfl,this,i8 4 hb.1 hr⟩
  · exact False.elim hk
theorem ko {G:Gh} {w:World} {b:Nat} {v:Value}:∀ (ids:List Nat) {E:Env} {a:AV} {o:List Ob},ai G pn E (xo o b) w→VR E a v→∃ E',ai G pn E' (xo (t6 ids a o).2 b) w∧VR E' (t6 ids a o).1 v
  | [],_,_,_,hS,hr=>⟨_,hS,hr⟩
  | id::ids,E,a,o,hS,hr=>by
    unfold t6
    split
    · rename_i hid
      have hid':id<(xo o b).o.length:=by rw [Nat.blt_eq] at hid; exact hid
      exact ko ids (xQ hS hid') (eU 4 gS hr)
    · exact ko ids hS hr
def v5 (b i:Nat) (mu:Key→Option MV):Key→Option MV
  | .O j=>if j=b then mu (.O i) else if j<b then mu (.O j) else none
  | .S j x=>if j<b then mu (.S j x) else none
  | .L d=>mu (.L d)
theorem p5 {b i:Nat} {mu:Key→Option MV} {k:Key} {x:MV} (h:v5 b i mu k=some x):(k=.O b∧mu (.O i)=some x)∨(mu k=some x∧∀ j,k=.O j→j<b):=by
  unfold v5 at h
  split at h
  · rename_i j
    split at h
    · rename_i e
      exact .inl ⟨by rw [e],h⟩
    · split at h
      · rename_i hlt
        exact .inr ⟨h,fun q e=>by cases e; exact hlt⟩
      · cases h
  · split at h
    · exact .inr ⟨h,fun q e=>by cases e⟩
    · cases h
  · exact .inr ⟨h,fun q e=>by cases e⟩
theorem Dn {G:Gh} {E:Env} {w:World} {b i sz:Nat} {o:List Ob} {rows:List (List AV)} (hS:ai G pn E (xo o b) w) (hi:b≤i) (hfl:(o.take b).all zY=true) (ho:o[i]?=some (.arr true sz rows)) :
    ai G pn ⟨E.F,v5 b i E.mu,E.h⟩ (xo (o.take b++[.arr true sz rows]) b) w:=by
  have hbl:b≤o.length:=hS.bl
  have hlen:(o.take b).length=b:=by rw [List.length_take]; omega
  have get:∀ j,(o.take b++[.arr true sz rows])[j]?=if j<b then o[j]? else if j=b then some (.arr true sz rows) else none:=fun j=>by
    split
    · rename_i h
      rw [List.getElem?_append_left (by rw [hlen]; exact h),List.getElem?_take,if_pos h]
    · split
      · rename_i h
        subst h
        rw [List.getElem?_append_right (by omega),hlen,Nat.sub_self]
        rfl
      · rw [List.getElem?_eq_none]
        rw [List.length_append,hlen,List.length_singleton]
        omega
  have flat:∀ j x,j<b→o[j]?=some x→zY x=true:=fun j x hj hx=>by
    have:(o.take b)[j]?=some x:=by rw [List.getElem?_take,if_pos hj,hx]
    exact List.all_eq_true.1 hfl x (List.mem_of_getElem? this)
  refine ⟨hS.hp,hS.os,hS.tape,hS.output,hS.size,hS.keep,hS.F0,hS.Flt,hS.Fnew,fun k b' o' s n h=>?_,fun k k' b' o1 s n o2 s' n' h h'=>?_,fun d=>hS.loc d,fun id=>?_,fun id hid=>?_,?_,hS.szs,fun _ _ h=>(by cases h),fun id=>?_⟩
  · rcases p5 h with ⟨_,h1⟩ | ⟨h1,_⟩
    · exact hS.own _ _ _ _ _ h1
    · exact hS.own _ _ _ _ _ h1
  · rcases p5 h with ⟨e1,h1⟩ | ⟨h1,h2⟩
    · rcases p5 h' with ⟨e3,_⟩ | ⟨h3,h4⟩
      · rw [e1,e3]
      · have:=hS.inj _ _ _ _ _ _ _ _ _ h1 h3
        have:=h4 i this.symm
        omega
    · rcases p5 h' with ⟨e3,h3⟩ | ⟨h3,_⟩
      · have:=hS.inj _ _ _ _ _ _ _ _ _ h1 h3
        have:=h2 i this
        omega
      · exact hS.inj _ _ _ _ _ _ _ _ _ h1 h3
  · show eu _ ((o.take b++[Ob.arr true sz rows])[id]?) (v5 b i E.mu (.O id))
    rw [get]
    by_cases h1:id<b
    · have h2:¬ id=b:=by omega
      have hk:v5 b i E.mu (.O id)=E.mu (.O id):=by
        unfold v5
        simp only [h2,h1,if_true,if_false]
      rw [if_pos h1,hk]
      have h3:=hS.obj id
      have h4:=flat id
      revert h3
      show eu E o[id]? (E.mu (.O id))→_
      cases hx:o[id]? with
      | none=>cases E.mu (.O id) <;> exact fun h=>h
      | some x =>
        have h5:=h4 x h1 hx
        cases x with
        | arr fl s r =>
          cases fl with
          | true=>cases E.mu (.O id) with
            | none=>exact fun h=>h
            | some m=>cases m <;> exact fun h=>h
          | false=>cases h5
        | dead=>cases E.mu (.O id) <;> exact fun h=>h
        | mapo _ _=>cases h5
        | own _ _ _ _=>cases h5
    · rw [if_neg h1]
      by_cases h2:id=b
      · have hk:v5 b i E.mu (.O id)=E.mu (.O i):=by
          unfold v5
          simp only [h2,if_true]
        rw [if_pos h2,hk]
        have h3:=hS.obj i
        rw [show (xo o b).o[i]?=some (.arr true sz rows) from ho] at h3
        revert h3
        cases E.mu (.O i) with
        | none=>exact fun h=>h
        | some m=>cases m <;> exact fun h=>h
      · have hk:v5 b i E.mu (.O id)=none:=by
          unfold v5
          simp only [h1,h2,if_false]
        rw [if_neg h2,hk]
        trivial
  · show (o.take b++[Ob.arr true sz rows])[id]?=some Ob.dead∨v5 b i E.mu (.O id)=G.mu id
    have hid:id<b:=hid
    have h2:¬ id=b:=by omega
    rw [get,if_pos hid]
    unfold v5
    simp only [h2,hid,if_true,if_false]
    exact hS.old id hid
  · show b≤(o.take b++[Ob.arr true sz rows]).length
    rw [List.length_append,hlen]
    omega
  · show c_ _ id ((o.take b++[Ob.arr true sz rows])[id]?)
    rw [get]
    by_cases h1:id<b
    · rw [if_pos h1]
      have h3:=hS.ow id
      have h4:=flat id
      revert h3
      show c_ E id o[id]?→_
      have key:∀ x,v5 b i E.mu (.S id x)=E.mu (.S id x):=fun x=>by
        unfold v5
        simp only [h1,if_true]
      cases hx:o[id]? with
      | none=>exact fun h x=>(key x).trans (h x)
      | some x =>
        have h5:=h4 x h1 hx
        cases x with
        | arr fl s r=>exact fun h x=>(key x).trans (h x)
        | dead=>exact fun h x=>(key x).trans (h x)
        | mapo _ _=>cases h5
        | own _ _ _ _=>cases h5
    · rw [if_neg h1]
      have key:∀ x,v5 b i E.mu (.S id x)=none:=fun x=>by
        unfold v5
        simp only [h1,if_false]
      by_cases h2:id=b
      · rw [if_pos h2]
        exact key
      · rw [if_neg h2]
        exact key
theorem Do {E:Env} {b i:Nat} {a:AV} {v:Value} (hc:CC a=some i) (hv:VR E a v):VR ⟨E.F,v5 b i E.mu,E.h⟩ (E7 b a) v:=by
  have hk:∀ x,E.mu (.O i)=x→v5 b i E.mu (.O b)=x:=fun x h=>by
    unfold v5
    simp only [if_true]
    exact h
  have one:∀ {u:Value},VR E (.mf i) u→VR ⟨E.F,v5 b i E.mu,E.h⟩ (.mf b) u:=fun hu=>by
    cases hu with
    | mfn hm=>exact .mfn (hk _ hm)
    | mfe a hm=>exact .mfe a (hk _ hm)
    | mf cap hm h1 h2=>exact .mf cap (hk _ hm) h1 h2
  unfold CC at hc
  split at hc
  · cases hc
    exact one hv
  · cases hc
    cases hv with
    | tup us hl hx =>
      refine .tup us hl (fun m c u h1 h2=>?_)
      match m,h1 with
      | 0,h1 =>
        cases h1
        exact one (hx 0 _ u rfl h2)
      | 1,h1 =>
        cases h1
        have:=hx 1 _ u rfl h2
        cases this with
        | v _ _ hp=>exact .v _ _ hp
      | m + 2,h1=>cases h1
  · cases hc
theorem BB {G:Gh} {w:World} {b:Nat} {v:Value} {E:Env} {a:AV} {o:List Ob} (hS:ai G pn E (xo o b) w) (hr:VR E a v):∃ E',ai G pn E' (xo (fin b a o).2 b) w∧VR E' (fin b a o).1 v:=by
  unfold fin
  split
  · rename_i i hc
    split
    · rename_i hb ho
      rw [Bool.and_eq_true] at hb
      exact ⟨_,Dn hS (Nat.le_of_ble_eq_true hb.1) hb.2 ho,Do hc hr⟩
    · exact ko _ hS hr
  · exact ko _ hS hr
theorem SD.ofTs {cfg:m7} (hN:jS cfg.P) (hmix:cfg.P.follows .mixedOrders=true) {f:Nat} {args:List AV} {o:List Ob} {r:ρ} {out:ρ→AV×List Ob} {T:Tr ρ True} (hB:i_ (cfg.pol f) ord (fI cfg.P f)=true) (h:AF (gF cfg) (dq cfg.P) ord f args o r out T):SD cfg.P f args o (fun r' o'=>r'=(out r).1∧o'=(out r).2):=by
  obtain ⟨h1,h2⟩:=mX hN hmix hB h
  refine ⟨(out r).1,(out r).2,⟨h1,fun E w us hM hg hv=>(h2 _ E w us hM hg hv).mono ?_⟩,rfl,rfl⟩
  rintro e w' ⟨v,c,S',E',⟨Γ',T',hk⟩,rfl,hS,hr⟩
  obtain ⟨hb,hk⟩:=ac hk
  split at hk
  · obtain ⟨rfl,h5⟩:=hk
    rw [← h5]
    simp only [Bool.and_eq_true] at hb
    have:=hS.obj_only
    rw [Nat.eq_of_beq_eq_true hb.2] at this
    obtain ⟨E2,h6,h7⟩:=BB this (i8 4 hb.1 hr)
    exact ⟨v,_,_,E2,⟨rfl,rfl⟩,rfl,h6,h7⟩
  · exact False.elim hk
end
abbrev vA (k:Nat) (v:AV):dh:=⟨[],[],[],[(k,v)],[],[],[],[],[]⟩
abbrev rA (k:Nat) (x:List AV):dh:=⟨[],[],[(k,x)],[],[],[],[],[],[]⟩
abbrev cA (k:Nat) (v:AV):dh:=⟨[],[],[],[],[(k,v)],[],[],[],[]⟩
abbrev hA (k:Nat):dh:=⟨[],[k],[],[],[],[],[],[],[]⟩
abbrev nA (k:Nat) (x:uS):dh:=⟨[],[],[],[],[],[],[],[],[(k,x)]⟩
abbrev mA (k:Nat) (x:List (AV×AV)):dh:=⟨[],[],[],[],[],[],[],[(k,x)],[]⟩
abbrev oA (k i:Nat) (x:List (List AV)):dh:=⟨[],[],[],[],[],[],[(k,(i,x))],[],[]⟩
abbrev rW (k:Nat) (v w:AV):dh:=⟨[],[],[],[(k,w)],[(k,v)],[],[],[],[]⟩
abbrev ca (k:Nat) (v:AV):dh:=⟨[],[k],[],[(k,v)],[],[],[],[],[]⟩
abbrev hR (k i:Nat) (x:List (List AV)):dh:=⟨[],[k],[],[],[],[],[(k,(i,x))],[],[]⟩
abbrev HG (k:Nat) (r:List AV) (i:Nat) (x:List (List AV)):dh:=⟨[],[],[(k,r)],[],[],[],[(k,(i,x))],[],[]⟩
abbrev sA (k:Nat) (v:AV×List Ob):dh:=⟨[],[],[],[],[],[(k,v)],[],[],[]⟩
abbrev wK (a b:List Nat) (c:Nat):Wk:=⟨a,b,c,[],[],[]⟩
abbrev l0:Le:=⟨[],[],[]⟩
theorem cB {a b:Bool} (h:a=b):AV.v (.bool a)=AV.v (.bool b):=congrArg E6 h
theorem eS {α:Type} {m:Option α} {x y:α} (h:m=some x) (k:x=y):m=some y:=k▸h
theorem FG {α:Type} {P:Prop} {c:Bool} {l:α}:(if c=true then some l else none).bind (fun x=>@ite _ (P→some l=some x) (Classical.propDecidable _) (some x) none)=grd c (some l):=by
  unfold grd
  split
  · show @ite _ (P→some l=some l) (Classical.propDecidable _) (some l) none=some l
    exact if_pos fun _=>rfl
  · rfl
abbrev cP (P:Program) {ρ:Type} (m:Option ρ) (f:Nat) (as:List AV) (enc:ρ→AV):Prop:=∀ r,m=some r→dz P f as (fun x=>x=enc r)
abbrev cS (P:Program) {ρ:Type} (m:Option ρ) (f:Nat) (as:List AV) (o:List Ob) (R:ρ→AV×List Ob):Prop:=∀ y,m=some y→SD P f as o (fun r' o'=>r'=(R y).1∧o'=(R y).2)
theorem aK {s:ByteArray} {i x:Int} (h:ae s i=some x):(if 0≤i then s[i.toNat]? else none)=some (UInt8.ofNat x.toNat):=by
  unfold ae at h
  split at h
  · rename_i h0
    rw [if_pos h0]
    cases hb:s[i.toNat]? with
    | none=>rw [hb] at h; cases h
    | some b =>
      rw [hb] at h
      have:=Option.some.inj h
      subst this
      simp
  · cases h
theorem aL {s:ByteArray} {i x:Int} (h:ae s i=some x):x=((UInt8.ofNat x.toNat).toNat:Int):=by
  unfold ae at h
  split at h
  · cases hb:s[i.toNat]? with
    | none=>rw [hb] at h; cases h
    | some b =>
      rw [hb] at h
      have:=Option.some.inj h
      subst this
      simp
  · cases h
section
variable {ρ:Type} {Γ:Prop}
def tB (k:Nat) (b:Bool) (t:Tr ρ (Γ∧b=true)) (e:Tr ρ (Γ∧b=false)):Tr ρ Γ :=
  .ite k b (.op k (vA k (.v (.bool true))) (.o (AV.v (.bool b)=AV.v (.bool true)) (fun g=>cB g.2) t)) (.op k (vA k (.v (.bool false))) (.o (AV.v (.bool b)=AV.v (.bool false)) (fun g=>cB g.2) e))
def tG (k:Nat) (b:Bool) (t:Tr ρ (Γ∧b=true)):Tr ρ Γ:=.ite k b t .bad
def tL (k:Nat) {α:Type} (f:α→List AV) (l:List α) (r:Tr ρ Γ):Tr ρ Γ :=
  .op k (vA k (.v (.int .i64 (l.length:Int)))) (.o (AV.v (.int .i64 (((l.map f).length:Nat):Int))=AV.v (.int .i64 (l.length:Int))) (fun _=>Di f l) r)
def tI (k:Nat) {α:Type} (f:α→List AV) (l:List α) (i:Int) (r:(x:α)→Tr ρ (Γ∧i4 l i=some x)):Tr ρ Γ :=
  .bind k (i4 l i) fun x=>.op k (rA k (f x)) (.o (DC (l.map f) i=some (f x)) (fun g=>Cw f g.2) (r x))
def tM (k:Nat) {α:Type} (f:α→List AV) {l:List α} {i:Int} {x:α} (h:Γ→i4 l i=some x) (r:Tr ρ Γ):Tr ρ Γ :=
  .op k (rA k (f x)) (.o (DC (l.map f) i=some (f x)) (fun g=>Cw f (h g)) r)
def tC (k:Nat) {α:Type} {m:Option α} {P:Program} {f:Nat} {as:List AV} {enc:α→AV} (h:cP P m f as enc) (r:(y:α)→Tr ρ (Γ∧m=some y)):Tr ρ Γ :=
  .bind k m fun y=>.op k (cA k (enc y)) (.o (dz P f as (fun x=>x=enc y)) (fun g=>h y g.2) (r y))
def tS (k:Nat) {α:Type} {m:Option α} {P:Program} {f:Nat} {as:List AV} {o:List Ob} {R:α→AV×List Ob} (h:cS P m f as o R) (r:(y:α)→Tr ρ (Γ∧m=some y)):Tr ρ Γ :=
  .bind k m fun y=>.op k (sA k (R y)) (.o (SD P f as o (fun r' o'=>r'=(R y).1∧o'=(R y).2)) (fun g=>h y g.2) (r y))
def tW (S:St) (f:St→Tr ρ Γ):Tr ρ Γ:=f S
def tF (f:Tr ρ Γ→Tr ρ Γ) (g:(Tr ρ Γ→Tr ρ Γ)→Tr ρ Γ):Tr ρ Γ:=g f
def tZ (S:St) (r:Tr ρ Γ):Tr ρ Γ:=.o (S=S) (fun _=>rfl) r
end
end A
end Go.Proofs.YtnmmknnnggcijaaDoor
