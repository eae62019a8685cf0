/- The evaluator along trees; contracts out of it. Nothing is claimed here of the program. -/
import Derived.Test.YtaekcekecdocnaaKB
namespace Go.Proofs.Ytaekcekecdocnaa
namespace A
open Go
def xB:Nat→AV→List Nat
  | 0,_=>[]
  | n + 1,a=>match a with
    | .mf id | .msl id _ _ _ | .mp id | .ptr (.O id) _ _ | .bsl (.O id) _ _=>[id]
    | .agg cs | .tup cs=>cs.flatMap (xB n)
    | .fn _ x y=>x.flatMap (xB n)++y.flatMap (xB n)
    | _=>[]
def swp (b:Nat) (a:AV) (o:List Ob):List Nat:=(tM b (o.length - b)).filter fun i=>!(bh (xB 4 a) i)
def uv:List Nat→AV→List Ob→AV×List Ob
  | [],a,o=>(a,o)
  | id::ids,a,o=>match Nat.blt id o.length with
    | true=>uv ids (a5 4 (.O id) a) ((o.map (bw (.O id))).set id .dead)
    | false=>uv ids a o
def yA:Ob→Bool
  | .dead=>true
  | .arr true _ _=>true
  | _=>false
def y_:AV→Option Nat
  | .mf i=>some i
  | .tup [.mf i,.v _]=>some i
  | _=>none
def zK (b:Nat):AV→AV
  | .mf _=>.mf b
  | .tup [.mf _,.v x]=>.tup [.mf b,.v x]
  | a=>a
def jR (b:Nat) (a:AV) (o:List Ob):AV×List Ob :=
  match y_ a with
  | some i=>match Nat.ble b i&&(o.take b).all yA,o[i]? with
    | true,some (.arr true sz rows)=>(zK b a,o.take b++[.arr true sz rows])
    | _,_=>uv (swp b a o) a o
  | none=>uv (swp b a o) a o
open Go.RowKit (Below)
inductive Tr (ρ:Type):Prop→Type 1 where
  | ret {Γ:Prop} (x:ρ):Tr ρ Γ
  | rp {Γ:Prop} (x:ρ) (Q:Prop) (h:Γ→Q):Tr ρ Γ
  | rq {Γ:Prop} (x:ρ):Tr ρ Γ
  | bad {Γ:Prop}:Tr ρ Γ
  | op {Γ:Prop} (k:Nat) (A:bP) (r:Tr ρ Γ):Tr ρ Γ
  | o {Γ:Prop} (P:Prop) (h:Γ→P) (r:Tr ρ Γ):Tr ρ Γ
  | rg {Γ:Prop} (i:Nat) (r:Tr ρ Γ):Tr ρ Γ
  | ite {Γ:Prop} (k:Nat) (b:Bool) (t:Tr ρ (Γ∧b=true)) (e:Tr ρ (Γ∧b=false)):Tr ρ Γ
  | bind {Γ:Prop} (k:Nat) {α:Type} (m:Option α) (f:(x:α)→Tr ρ (Γ∧m=some x)):Tr ρ Γ
  | alt {Γ:Prop} (k:Nat) {α β:Type} (y:α⊕β) (f:(x:α)→Tr ρ (Γ∧y=.inl x)) (g:(x:β)→Tr ρ (Γ∧y=.inr x)):Tr ρ Γ
  | opt {Γ:Prop} (k:Nat) {α:Type} (y:Option α) (a:Tr ρ (Γ∧y=none)) (f:(x:α)→Tr ρ (Γ∧y=some x)):Tr ρ Γ
  | dem {Γ:Prop} (k:Nat) (P:Prop) (a:Tr ρ (Γ∧P)) (r:Tr ρ Γ):Tr ρ Γ
  | lp {Γ:Prop} (k:Nat) (W:Wk) (L:Le) (e:Ex) (S:St) (r:Tr ρ Γ):Tr ρ Γ
  | un {Γ:Prop} (k:Nat) (r:Tr ρ Γ):Tr ρ Γ
  | wk {Γ:Prop} (W:Wk) (L:Le) (r:Tr ρ Γ):Tr ρ Γ
  | wr {Γ:Prop} (ds:List Nat) (L:Le) (r:Tr ρ Γ):Tr ρ Γ
noncomputable def Tr.eval {ρ:Type}:{Γ:Prop}→Tr ρ Γ→Option ρ
  | _,.ret x=>some x
  | _,.rp x _ _=>some x
  | _,.rq x=>some x
  | _,.bad=>none
  | _,.op _ _ r=>r.eval
  | _,.o _ _ r=>r.eval
  | _,.rg _ r=>r.eval
  | _,.ite _ b t e=>if b=true then t.eval else e.eval
  | _,.bind _ m f=>m.bind fun x=>(f x).eval
  | _,.alt _ y f g=>Sum.elim (fun x=>(f x).eval) (fun x=>(g x).eval) y
  | _,.opt _ y a f=>vE y a.eval fun x=>(f x).eval
  | _,.dem _ P a r=>r.eval.bind fun x=>@_root_.ite _ (P→a.eval=some x) (Classical.propDecidable _) (some x) none
  | _,.lp _ _ _ _ _ r=>r.eval
  | _,.un _ r=>r.eval
  | _,.wk _ _ r=>r.eval
  | _,.wr _ _ r=>r.eval
def Tr.prop {ρ:Type} (r:ρ) (Q:ρ→Prop):{Γ:Prop}→Tr ρ Γ→Prop
  | _,.ret x=>x=r∧Q x
  | _,.rp x Q' _=>x=r∧Q'
  | _,.rq x=>x=r∧true=true
  | _,.bad=>False
  | _,.op _ _ t=>t.prop r Q
  | _,.o P _ t=>P∧t.prop r Q
  | _,.rg _ t=>t.prop r Q
  | _,.ite _ b t e=>(b=true∧t.prop r Q)∨(b=false∧e.prop r Q)
  | _,.bind _ m f=>∃ x,m=some x∧(f x).prop r Q
  | _,.alt _ y f g=>(∃ x,y=.inl x∧(f x).prop r Q)∨(∃ x,y=.inr x∧(g x).prop r Q)
  | _,.opt _ y a f=>(y=none∧a.prop r Q)∨(∃ x,y=some x∧(f x).prop r Q)
  | _,.dem _ P a t=>(P→a.prop r Q)∧t.prop r Q
  | _,.lp _ _ _ _ _ t=>t.prop r Q
  | _,.un _ t=>t.prop r Q
  | _,.wk _ _ t=>t.prop r Q
  | _,.wr _ _ t=>t.prop r Q
theorem Tr.holds {ρ:Type} {r:ρ} {Q:ρ→Prop} (hQ:∀ x,Q x) {Γ:Prop} (T:Tr ρ Γ):Γ→T.eval=some r→T.prop r Q:=by
  induction T with
  | ret x=>exact fun _ h=>⟨zj h,hQ x⟩
  | rp x Q' h'=>exact fun hg h=>⟨zj h,h' hg⟩
  | rq x=>exact fun _ h=>⟨zj h,rfl⟩
  | bad=>exact fun _ h=>by cases h
  | o P h' t ih=>exact fun hg h=>⟨h' hg,ih hg h⟩
  | op _ _ t ih | rg _ t ih | lp _ _ _ _ _ t ih | un _ t ih | wk _ _ t ih | wr _ _ t ih=>exact fun hg h=>ih hg h
  | ite k b t e iht ihe =>
    intro hg h
    rcases zx (b:=b) h with ⟨hb,h⟩ | ⟨hb,h⟩
    · exact .inl ⟨hb,iht ⟨hg,hb⟩ h⟩
    · exact .inr ⟨hb,ihe ⟨hg,hb⟩ h⟩
  | bind k m f ih =>
    intro hg h
    obtain ⟨x,hx,h⟩:=xG (x:=m) h
    exact ⟨x,hx,ih x ⟨hg,hx⟩ h⟩
  | alt k y f g ihf ihg =>
    intro hg h
    cases y with
    | inl x=>exact .inl ⟨x,rfl,ihf x ⟨hg,rfl⟩ h⟩
    | inr x=>exact .inr ⟨x,rfl,ihg x ⟨hg,rfl⟩ h⟩
  | opt k y a f iha ihf =>
    intro hg h
    rcases wR (x:=y) h with ⟨hy,h⟩ | ⟨z,hz,h⟩
    · exact .inl ⟨hy,iha ⟨hg,hy⟩ h⟩
    · exact .inr ⟨z,hz,ihf z ⟨hg,hz⟩ h⟩
  | dem k P a t iha iht =>
    intro hg h
    obtain ⟨x,hx,h⟩:=xG (x:=t.eval) h
    split at h
    · rename_i hp
      have:=zj h
      subst this
      exact ⟨fun p=>iha ⟨hg,p⟩ (hp p),iht hg hx⟩
    · cases h
def yB (f:AV→AV→Bool):List AV→List AV→Bool
  | [],[]=>true
  | x::xs,y::ys=>f x y&&yB f xs ys
  | _,_=>false
def zt (f:AV→AV→Bool):List (List AV)→List (List AV)→Bool
  | [],[]=>true
  | x::xs,y::ys=>yB f x y&&zt f xs ys
  | _,_=>false
def za:List (List AV)→Bool
  | []=>true
  | _=>false
def leB:Nat→AV→AV→Bool
  | 0,_,_=>false
  | n + 1,a,b=>match a,b with
    | .v (.bool x),.v (.bool y)=>x==y
    | .v (.int k x),.v (.int l y)=>decide (k=l)&&(x==y)
    | .v (.string x),.v (.string y)=>x.data.toList==y.data.toList
    | .nilp,.nilp=>true
    | .nilsl,.sl r=>za r
    | .esl,.sl r=>za r
    | .sl r,.sl s=>zt (leB n) r s
    | .agg r,.agg s=>yB (leB n) r s
    | .tup r,.tup s=>yB (leB n) r s
    | .fptr r i,.fptr s j=>Nat.beq i j&&yB (leB n) r s
    | _,_=>false
theorem oa {f:AV→AV→Bool} (hf:∀ a b,f a b=true→iB a b):∀ {r s:List AV},yB f r s=true→gK r s
  | [],[],_=>.nil
  | _::_,_::_,h=>by
    unfold yB at h
    rw [Bool.and_eq_true] at h
    exact .cons (hf _ _ h.1) (oa hf h.2)
  | [],_::_,h=>by cases h
  | _::_,[],h=>by cases h
theorem wI {f:AV→AV→Bool} (hf:∀ a b,f a b=true→iB a b):∀ {r s:List (List AV)},zt f r s=true→f8 r s
  | [],[],_=>.nil
  | _::_,_::_,h=>by
    unfold zt at h
    rw [Bool.and_eq_true] at h
    exact .cons (oa hf h.1) (wI hf h.2)
  | [],_::_,h=>by cases h
  | _::_,[],h=>by cases h
theorem oc:∀ (n:Nat) (a b:AV),leB n a b=true→iB a b
  | 0,_,_,h=>by cases h
  | n + 1,a,b,h=>by
    unfold leB at h
    split at h
    · rw [eq_of_beq h]
      exact .refl _
    · rw [Bool.and_eq_true] at h
      rw [of_decide_eq_true h.1,eq_of_beq h.2]
      exact .refl _
    · rename_i x y
      obtain ⟨⟨x⟩⟩:=x
      obtain ⟨⟨y⟩⟩:=y
      have:x=y:=eq_of_beq h
      rw [this]
      exact .refl _
    · exact .refl _
    · rename_i r
      cases r with
      | nil=>exact .nil
      | cons _ _=>cases h
    · rename_i r
      cases r with
      | nil=>exact .esl
      | cons _ _=>cases h
    · exact .sl (wI (oc n) h)
    · exact .agg (oa (oc n) h)
    · exact .tup (oa (oc n) h)
    · rw [Bool.and_eq_true] at h
      rw [Nat.eq_of_beq_eq_true h.1]
      exact .fptr (oa (oc n) h.2)
    · cases h
def A0:bP:=⟨[],[],[],[],[],[],[],[],[]⟩
def yC {ρ:Type}:{Γ:Prop}→Tr ρ Γ→Tr ρ Γ
  | _,.o _ _ r=>yC r
  | _,T=>T
abbrev TK (ρ:Type):Type 1:=(Γ:Prop)→Tr ρ Γ→Prop
def oS {ρ:Type} (k:Nat):{Γ:Prop}→Tr ρ Γ→(bP→TK ρ)→Prop
  | _,.op j A r,F=>match Nat.beq j k with
    | true=>F A _ (yC r)
    | false=>F A0 _ (.op j A r)
  | _,.ite j b t e,F=>match Nat.beq j k with
    | true=>(b=true∧oS k t F)∨(b=false∧oS k e F)
    | false=>F A0 _ (.ite j b t e)
  | _,.bind j m f,F=>match Nat.beq j k with
    | true=>∃ x,m=some x∧oS k (f x) F
    | false=>F A0 _ (.bind j m f)
  | _,.alt j y f g,F=>match Nat.beq j k with
    | true=>(∃ x,y=.inl x∧oS k (f x) F)∨(∃ x,y=.inr x∧oS k (g x) F)
    | false=>F A0 _ (.alt j y f g)
  | _,.opt j y a f,F=>match Nat.beq j k with
    | true=>(y=none∧oS k a F)∨(∃ x,y=some x∧oS k (f x) F)
    | false=>F A0 _ (.opt j y a f)
  | _,.bad,_=>False
  | _,T,F=>F A0 _ T
def uw {ρ:Type} (k:Nat):{Γ:Prop}→Tr ρ Γ→(Option (Option (Wk×Le×Ex×St))→TK ρ)→Prop
  | _,.lp j W L e S r,F=>match Nat.beq j k with
    | true=>F (some (some (W,L,e,S))) _ (yC r)
    | false=>F none _ (.lp j W L e S r)
  | _,.un j r,F=>match Nat.beq j k with
    | true=>F (some none) _ r
    | false=>F none _ (.un j r)
  | _,.ite j b t e,F=>match Nat.beq j k with
    | true=>(b=true∧uw k t F)∨(b=false∧uw k e F)
    | false=>F none _ (.ite j b t e)
  | _,.bind j m f,F=>match Nat.beq j k with
    | true=>∃ x,m=some x∧uw k (f x) F
    | false=>F none _ (.bind j m f)
  | _,.alt j y f g,F=>match Nat.beq j k with
    | true=>(∃ x,y=.inl x∧uw k (f x) F)∨(∃ x,y=.inr x∧uw k (g x) F)
    | false=>F none _ (.alt j y f g)
  | _,.bad,_=>False
  | _,T,F=>F none _ T
def zL {ρ:Type} (i:Nat):{Γ:Prop}→Tr ρ Γ→Tr ρ Γ
  | _,.rg j r=>match Nat.beq j i with
    | true=>r
    | false=>.rg j r
  | _,T=>T
def zu {ρ:Type} (S:St) (K:St→TK ρ):{Γ:Prop}→Tr ρ Γ→Prop
  | Γ,.wk W L r=>wq L (wk W S) fun S'=>K S' Γ (yC r)
  | Γ,T=>K S Γ T
def jh:List Nat→St→St
  | [],S=>S
  | d::ds,S=>match Nat.ble 10000 d with
    | true=>match Nat.ble 30000 d with
      | true=>jh ds (mc [d - 30000] S)
      | false=>match Nat.ble 20000 d with
        | true=>jh ds (bG (d - 20000) S)
        | false=>jh ds (mc [d] S)
    | false=>match S.t[d]? with
      | some (.msl id 0 len _)=>match S.o[id]? with
        | some (.arr true sz rows)=>match Nat.ble S.b id with
          | true=>jh ds { t:=(bG id S).t.set d (.mf id),l:=(bG id S).l,o:=(bG id S).o.set id (.arr true sz (rows.take len)),b:=S.b }
          | false=>jh ds S
        | _=>jh ds S
      | _=>jh ds S
def yD {ρ:Type} (S:St) (K:St→TK ρ):{Γ:Prop}→Tr ρ Γ→Prop
  | Γ,.wr ds L r=>wq L (jh ds S) fun S'=>K S' Γ (yC r)
  | Γ,.ite j b t e=>match Nat.beq j 5000000 with
    | true=>(b=true∧yD S K t)∨(b=false∧yD S K e)
    | false=>K S Γ (.ite j b t e)
  | _,.bad=>False
  | Γ,T=>K S Γ T
def zR {ρ:Type} (P:Program) (o:Oper) (S:St) (F:Prop) (K:St→TK ρ):{Γ:Prop}→Tr ρ Γ→Prop
  | _,.dem j _ a r=>match Nat.beq j (keyOf o) with
    | true=>match o.op with
      | .binOp op t x (.const (.slice none 0 0)) _=>match P.underlying t with
        | some (.slice _)=>a_ S x fun v=>match v with
          | .sl rows=>aB (yv op) ((rows=[]→aA o.dst (.v (.bool (pZ op))) S fun S'=>K S' _ a)∧aA o.dst (.v (.bool (!(pZ op)))) S fun S'=>K S' _ (yC r))
          | _=>ac 460
        | _=>ac 461
      | _=>ac 462
    | false=>F
  | _,_=>F
section
variable {ρ:Type} (C:Ctx) (cd:xt) (ord:List (Nat×PT)) (pl:aD)
def qY (all:Array Oper):List Oper→St→(Γ:Prop)→Tr ρ Γ→(St→TK ρ)→Prop
  | [],S,Γ,T,K=>K S Γ T
  | o::rest,S,Γ,T,K =>
    match o.guard with
    | none=>zR C.P o S (oS (keyOf o) T fun A Γ T=>xR C A pl o S fun S'=>qY all rest S' Γ T K) (fun S' Γ T=>qY all rest S' Γ T K) T
    | some (j,want) =>
      match jX all j with
      | none=>ac 218
      | some d=>cW d S fun b S1=>gsel b want (oS (keyOf o) T fun A Γ T=>xR C A pl o S1 fun S'=>qY all rest S' Γ T K) (aA o.dst (.tup []) S1 fun S'=>qY all rest S' Γ T K)
def tag (all:Array Oper) (o:Oper) (S:St) (Γ:Prop) (T:Tr ρ Γ) (K:St→TK ρ):Prop :=
  match o.guard with
  | none=>aB (d7 pl all o S) (oS (keyOf o) T fun A Γ T=>sk C A pl o S fun S'=>K S' Γ T)
  | some (j,want) =>
    match jX all j with
    | none=>ac 218
    | some d=>cW d S fun b S1=>gsel b want (aB (d7 pl all o S1) (oS (keyOf o) T fun A Γ T=>sk C A pl o S1 fun S'=>K S' Γ T)) (aA o.dst (.tup []) S1 fun S'=>K S' Γ T)
def yM (ops:Array Oper) (i:Nat) (S:St) (Γ:Prop) (T:Tr ρ Γ) (K:St→TK ρ):Prop :=
  match ops[i]? with
  | none=>ac 303
  | some o=>tag C pl ops o S Γ T K
def tT (ops:Array Oper):PT→Option St→St→(Γ:Prop)→Tr ρ Γ→(St→TK ρ)→Prop
  | .done,m,S,Γ,T,K=>match m with
    | none=>K S Γ T
    | some S1=>K S1 Γ T
  | .go i t,m,S,Γ,T,K=>match m with
    | none=>yM C pl ops i S Γ T fun S' Γ T=>tT ops t none S' Γ T K
    | some _=>ac 305
  | .alt i t r,m,S,Γ,T,K=>match m with
    | none=>yM C pl ops i S Γ T fun S' Γ T=>tT ops t none S' Γ T fun S1 Γ T=>tT ops r (some S1) S Γ T K
    | some S1=>yM C pl ops i S Γ T fun S' Γ T=>tT ops t none S' Γ T fun S2 Γ T=>S2=S1∧tT ops r (some S1) S Γ (yC T) K
def qZ:List Nat→St→(Γ:Prop)→Tr ρ Γ→(St→TK ρ)→Prop
  | [],S,Γ,T,K=>K S Γ T
  | id::ids,S,_,T,K=>oS (id + 2000000) T fun A Γ T=>iQ A S id fun S'=>qZ ids S' Γ T K
def od:List Nat→St→(Γ:Prop)→Tr ρ Γ→(St→TK ρ)→Prop
  | [],S,Γ,T,K=>K S Γ T
  | id::ids,S,_,T,K=>oS (id + 6000000) T fun A Γ T=>kz A S id fun S'=>od ids S' Γ T K
def sJ (id:Nat) (S:St) (Γ:Prop) (T:Tr ρ Γ) (K:St→TK ρ):Prop :=
  match bh pl.cl id with
  | false=>K S Γ T
  | true=>qZ (sO S.o.length) S Γ T fun S1 Γ T=>match bh pl.fr id with
    | false=>K S1 Γ T
    | true=>od (sO S1.o.length) S1 Γ T K
def xC (step:St→(Γ:Prop)→Tr ρ Γ→(Ex→St→TK ρ)→Prop):Nat→St→(Γ:Prop)→Tr ρ Γ→(Ex→St→TK ρ)→Prop
  | 0,_,_,_,_=>ac 470
  | n + 1,S,Γ,T,K=>step S Γ T fun e S' Γ T=>match e with
    | .nrm=>xC step n S' Γ T K
    | .ex i=>K (.ex i) S' Γ T
    | .ret=>K .ret S' Γ T
def gV:Code→St→(Γ:Prop)→Tr ρ Γ→(Ex→St→TK ρ)→Prop
  | .skip,S,Γ,T,K=>K .nrm S Γ T
  | .region id ops draw,S,Γ,T,K =>
    match draw with
    | false=>qY C pl ops ops.toList S Γ (zL id T) fun S' Γ T=>sJ pl id S' Γ T fun S'' _ T=>yD S'' (K .nrm) T
    | true=>match jQ ord id with
      | some is=>aB (lq pl ops) (ot C.P (a7 ops.toList) S fun S1=>tT C pl ops is none S1 Γ (zL id T) fun S' Γ T=>e_ (a7 ops.toList) S' (sJ pl id S' Γ T fun S'' _ T=>yD S'' (K .nrm) T))
      | none=>ac 440
  | .seq a b,S,Γ,T,K=>gV a S Γ T fun e S' _ T=>match e with
    | .nrm=>uw (jd b + 4000000) T fun x Γ T=>match x with
      | some (some (W,L,e1,S1))=>wq L (wk W S') fun S2=>cd b S2 (fun e' S3=>e'=e1∧S3=S1)∧K e1 S1 Γ T
      | _=>gV b S' Γ T K
    | .ex i=>K (.ex i) S' _ T
    | .ret=>K .ret S' _ T
  | .cond c x y,S,Γ,T,K=>gX c S fun b S'=>match b with
    | true=>gV x S' Γ T K
    | false=>gV y S' Γ T K
  | .block id c,S,Γ,T,K=>gV c S Γ T fun e S' Γ T=>match e with
    | .ex i=>match Nat.beq i id with | true=>K .nrm S' Γ T | false=>K (.ex i) S' Γ T
    | .nrm=>K .nrm S' Γ T
    | .ret=>K .ret S' Γ T
  | .loop c,S,_,T,K=>uw (jd c + 3000000) T fun x Γ T=>match x with
    | some (some (W,L,e,S1))=>wq L (wk W S) fun S2=>(C.loop pl c S2 fun e' S'=>e'=e∧S'=S1)∧K e S1 Γ T
    | some none=>xC (gV c) 40 S Γ T K
    | none=>ac 471
  | .exit id,S,Γ,T,K=>K (.ex id) S Γ T
  | .ret,S,Γ,T,K=>K .ret S Γ T
  | _,_,_,_,_=>ac 119
def xT {σ τ:Type} (c:Code) (S:St) (r:σ⊕τ) (Sf:σ→St) (out:τ→Ex×St) (T:Tr (σ⊕τ) True):Prop :=
  gV C cd ord pl c S True T fun e S' _ T=>zu S' (fun S'' _ T=>match T with
    | .ret x=>match x with
      | .inl s=>match e with | .nrm=>.inl s=r∧S''=Sf s | _=>False
      | .inr t=>match e with | .nrm=>False | _=>.inr t=r∧(e,S'')=out t
    | _=>False) T
def xU {σ τ:Type} (Sf:σ→St) (out:τ→Ex×St):σ⊕τ→Prop
  | .inl s=>Sf s=Sf s
  | .inr t=>out t=out t
def yE (c:Code) (S:St) (r:ρ) (out:ρ→Ex×St) (T:Tr ρ True):Prop :=
  gV C cd ord pl c S True T fun e S' _ T=>zu S' (fun S'' _ T=>match T with
    | .ret x=>x=r∧(e,S'')=out x
    | _=>False) T
def uz (f:Nat) (args:List AV) (o:List Ob) (T:Tr ρ True) (K:AV→St→TK ρ):Prop :=
  match C.P.funcs[f]? with
  | some fn=>match fn.body with
    | some c=>gV C cd ord (C.pol f) c { t:=args++qg (fn.ntmps - args.length),l:=[],o:=o,b:=o.length } True T fun e S Γ T =>
        match e with
        | .ex _=>ac 120
        | _=>lZ C.P S fn.results.toList fun rs=>ou rs fun r=>K r S Γ T
    | none=>ac 121
  | none=>ac 122
def xV (f:Nat) (args:List AV) (r:ρ) (enc:ρ→AV) (T:Tr ρ True):Prop :=
  uz C cd ord f args [] T fun a S _ T=>qb S.o a fun a=>match T with
    | .ret x=>x=r∧iB a (enc x)
    | .rp x _ _=>x=r∧iB a (enc x)
    | .rq x=>x=r∧leB 40 a (enc x)=true
    | _=>False
def yF (f:Nat) (args:List AV) (o:List Ob) (r:ρ) (out:ρ→AV×List Ob) (T:Tr ρ True):Prop :=
  uz C cd ord f args o T fun a S _ T=>aB (jU 4 a&&Nat.beq S.b o.length) (match T with
    | .ret x=>x=r∧(a,S.o)=out x
    | _=>False)
end
theorem vu {S:St} {d id len ext sz:Nat} {rows:List (List AV)} (hd:S.t[d]?=some (.msl id 0 len ext)) (ho:S.o[id]?=some (.arr true sz rows)) (hb:S.b≤id) :
    bQ S { t:=(bG id S).t.set d (.mf id),l:=(bG id S).l,o:=(bG id S).o.set id (.arr true sz (rows.take len)),b:=S.b }:=by
  intro G E a w hM ht
  have hid:id<S.o.length:=(List.getElem?_eq_some_iff.1 ho).1
  obtain ⟨hM1,ht1,_⟩:=gz hM ht hid
  have hgl:(bG id S).o.length=S.o.length:=by simp [bG]
  have hk:ao E.mu (.O id) (.O id)=none:=by unfold ao; rw [if_pos rfl]
  have hdl:d<a.tmps.size:=by rw [← ht.len]; exact (List.getElem?_eq_some_iff.1 hd).1
  have hu:a.tmps[d]?=some a.tmps[d]:=Array.getElem?_eq_getElem hdl
  generalize a.tmps[d]=u at hu
  have hv:=ht.val d _ u hd hu
  have hob:=hM.obj id
  rw [ho] at hob
  obtain ⟨mv,hmv,hval,hmu⟩:∃ mv:MV,b9 ⟨E.F,ai (ao E.mu (.O id)) (.O id) mv,E.h⟩ (some (.arr true sz (rows.take len))) (some mv) ∧
      VR ⟨E.F,ai (ao E.mu (.O id)) (.O id) mv,E.h⟩ (.mf id) u∧(mv=.virt∨∃ b o s n n',mv=.blk b o s n∧E.mu (.O id)=some (.blk b o s n')):=by
    have hadd:∀ mv:MV,ai (ao E.mu (.O id)) (.O id) mv (.O id)=some mv:=fun mv=>by unfold ai; rw [if_pos rfl]
    cases hv with
    | msle off x hx =>
      refine ⟨.virt,rfl,?_,.inl rfl⟩
      cases x with
      | none=>exact .mfn (hadd _)
      | some x=>exact .mfe x (hadd _)
    | msl off len ext cap hx h1 h2 h3 =>
      rename_i b o s n
      rw [hx] at hob
      obtain ⟨⟨rfl,hn⟩,har⟩:=hob
      have hl:(rows.take len).length=len:=by rw [List.length_take]; omega
      refine ⟨.blk b o s len,⟨⟨rfl,hl.symm⟩,?_⟩,?_,.inr ⟨b,o,s,len,n,rfl,hx⟩⟩
      · obtain ⟨hs,hr,us,ty,hb,hle,hc⟩:=har
        refine ⟨hs,fun r h=>hr r (List.mem_of_mem_take h),us,ty,hb,?_,fun m c h=>hc m c ?_⟩
        · have:(rows.take len).length * s≤rows.length * s:=Nat.mul_le_mul_right _ (by rw [hl]; omega)
          omega
        · have hp:(rows.take len).flatten <+: rows.flatten:=by
            have:rows.flatten=(rows.take len).flatten++(rows.drop len).flatten:=by rw [← List.flatten_append,List.take_append_drop]
            rw [this]
            exact List.prefix_append _ _
          obtain ⟨z,hz⟩:=hp
          rw [← hz,List.getElem?_append_left (List.getElem?_eq_some_iff.1 h).1]
          exact h
      · have:=VR.mf (E:=⟨E.F,ai (ao E.mu (.O id)) (.O id) (.blk b o s len),E.h⟩) cap (hadd _) (by omega) (by simpa using h3)
        simpa using this
  have hle:LE ⟨E.F,ao E.mu (.O id),E.h⟩ ⟨E.F,ai (ao E.mu (.O id)) (.O id) mv,E.h⟩:=dQ (E:=⟨E.F,ao E.mu (.O id),E.h⟩) hk
  refine ⟨⟨E.F,ai (ao E.mu (.O id)) (.O id) mv,E.h⟩,?_,?_⟩
  · refine hM1.addkey (key:=.O id) (mv:=mv) (fun _ h=>by cases h) hk (fun b o s n e=>?_) (fun _ _=>rfl) (fun i hi=>?_) rfl ?_ (fun i e=>?_) (fun _ h=>by cases h) (fun i e=>?_) ?_
    · rcases hmu with rfl | ⟨b',o',s',n1,n2,rfl,hx⟩
      · cases e
      · cases e
        obtain ⟨h1,h2,h3⟩:=hM.own _ _ _ _ _ hx
        refine ⟨h1,h2,h3,fun k o' s' n' h=>?_⟩
        obtain ⟨h4,h5⟩:=aR h
        exact h4 (hM.inj _ _ _ _ _ _ _ _ _ h5 hx)
    · show ((bG id S).o.set id _)[i]?=(bG id S).o[i]?
      rw [List.getElem?_set,if_neg (fun e=>hi (by rw [e]))]
    · show S.b≤((bG id S).o.set id _).length
      have:=hM.bl
      rw [List.length_set,hgl]
      exact this
    · cases e
      exact hb
    · cases e
      show b9 _ ((bG id S).o.set id _)[id]? _
      rw [List.getElem?_set,if_pos rfl,if_pos (by rw [hgl]; exact hid)]
      exact hmv
    · intro j h
      rcases h with e | ⟨i,e⟩ <;> cases e
      show bi _ id ((bG id S).o.set id _)[id]?
      rw [List.getElem?_set,if_pos rfl,if_pos (by rw [hgl]; exact hid)]
      refine hM1.ow_new (mv:=mv) rfl ?_ rfl
      have:(bG id S).o[id]?=some .dead:=by
        show ((S.o.map (bw (.O id))).set id .dead)[id]?=_
        rw [List.getElem?_set,if_pos rfl,if_pos (by simpa using hid)]
      rw [this]
      rfl
  · have ht2:=ht1.mono hle
    refine ⟨by simpa using ht2.len,fun n c v h1 h2=>?_,ht2.df,ht2.gt⟩
    have h1':((bG id S).t.set d (.mf id))[n]?=some c:=h1
    rw [List.getElem?_set] at h1'
    split at h1'
    · rename_i e
      subst e
      split at h1'
      · cases h1'
        rw [hu] at h2
        cases h2
        exact hval
      · cases h1'
    · exact ht2.val n c v h1' h2
theorem cN:∀ (ds:List Nat) (S:St),bQ S (jh ds S)
  | [],S=>.refl S
  | d::ds,S=>by
    unfold jh
    split
    · split
      · exact (cz [_] S).trans (cN ds _)
      split
      · exact (p1 _ S).trans (cN ds _)
      · exact (cz [d] S).trans (cN ds _)
    split
    · rename_i hd
      split
      · rename_i ho
        split
        · rename_i hb
          exact (vu hd ho (Nat.le_of_ble_eq_true hb)).trans (cN ds _)
        · exact cN ds S
      · exact cN ds S
    · exact cN ds S
section
variable {ρ:Type}
theorem mt {k:Nat} {Γ:Prop} (T:Tr ρ Γ) {F:bP→TK ρ} (h:oS k T F):∃ A Γ' T',F A Γ' T':=by
  induction T with
  | op j A r=>
    unfold oS at h
    split at h <;> exact ⟨_,_,_,h⟩
  | ite j b t e iht ihe =>
    unfold oS at h
    split at h
    · rcases h with ⟨_,h⟩ | ⟨_,h⟩
      · exact iht h
      · exact ihe h
    · exact ⟨_,_,_,h⟩
  | bind j m f ih =>
    unfold oS at h
    split at h
    · obtain ⟨x,_,h⟩:=h
      exact ih x h
    · exact ⟨_,_,_,h⟩
  | alt j y f g ihf ihg =>
    unfold oS at h
    split at h
    · rcases h with ⟨x,_,h⟩ | ⟨x,_,h⟩
      · exact ihf x h
      · exact ihg x h
    · exact ⟨_,_,_,h⟩
  | opt j y a f iha ihf =>
    unfold oS at h
    split at h
    · rcases h with ⟨_,h⟩ | ⟨x,_,h⟩
      · exact iha h
      · exact ihf x h
    · exact ⟨_,_,_,h⟩
  | bad=>exact False.elim h
  | _=>exact ⟨_,_,_,h⟩
theorem uA {k:Nat} {Γ:Prop} (T:Tr ρ Γ) {F:Option (Option (Wk×Le×Ex×St))→TK ρ} (h:uw k T F):∃ x Γ' T',F x Γ' T':=by
  induction T with
  | lp j W L e S r =>
    unfold uw at h
    split at h <;> exact ⟨_,_,_,h⟩
  | un j r =>
    unfold uw at h
    split at h <;> exact ⟨_,_,_,h⟩
  | ite j b t e iht ihe =>
    unfold uw at h
    split at h
    · rcases h with ⟨_,h⟩ | ⟨_,h⟩
      · exact iht h
      · exact ihe h
    · exact ⟨_,_,_,h⟩
  | bind j m f ih =>
    unfold uw at h
    split at h
    · obtain ⟨x,_,h⟩:=h
      exact ih x h
    · exact ⟨_,_,_,h⟩
  | alt j y f g ihf ihg =>
    unfold uw at h
    split at h
    · rcases h with ⟨x,_,h⟩ | ⟨x,_,h⟩
      · exact ihf x h
      · exact ihg x h
    · exact ⟨_,_,_,h⟩
  | bad=>exact False.elim h
  | _=>exact ⟨_,_,_,h⟩
theorem uB {S:St} {K:St→TK ρ} {Γ:Prop} {T:Tr ρ Γ} (h:zu S K T):∃ S' Γ' T',bQ S S'∧K S' Γ' T':=by
  unfold zu at h
  split at h
  · obtain ⟨S2,h1,h⟩:=fT h
    exact ⟨S2,_,_,(iR _ _).trans h1,h⟩
  · exact ⟨S,_,_,.refl S,h⟩
theorem uC {S:St} {K:St→TK ρ} {Γ:Prop} {T:Tr ρ Γ} (h:yD S K T):∃ S' Γ' T',bQ S S'∧K S' Γ' T':=by
  induction T with
  | wr ds L r =>
    obtain ⟨S2,h1,h⟩:=fT h
    exact ⟨S2,_,_,(cN ds S).trans h1,h⟩
  | ite j b t e iht ihe =>
    unfold yD at h
    split at h
    · rcases h with ⟨_,h⟩ | ⟨_,h⟩
      · exact iht h
      · exact ihe h
    · exact ⟨S,_,_,.refl S,h⟩
  | bad=>exact False.elim h
  | _=>exact ⟨S,_,_,.refl S,h⟩
variable {C:Ctx} {cd:xt} {ord:List (Nat×PT)} {pl:aD}
theorem gO {G:Gh} (hO:nW C) (hC:bH C) {rr:Option Nat} {all:Array Oper} {Q:Exit→Act→World→Prop}:∀ {ops:List Oper} {E:Env} {S:St} {w:World} {a:Act} {Γ:Prop} {T:Tr ρ Γ} {K:St→TK ρ},ad G pn E S w→TR G E S.t a→qY C pl all ops S Γ T K →
    (∀ S' Γ' T' E' a' w',K S' Γ' T'→ad G pn E' S' w'→TR G E' S'.t a'→Q .normal a' w')→wpListIn (rd rr) 0 C.P all Q ops a w
  | [],E,S,w,a,Γ,T,K,hM,ht,h,hQ=>hQ _ _ _ _ _ _ h hM ht
  | o::rest,E,S,w,a,Γ,T,K,hM,ht,h,hQ=>by
    have step:∀ {S1:St},ad G pn E S1 w→TR G E S1.t a→Region.wanted o (yielded all a.tmps)=true→(oS (keyOf o) T fun A Γ T=>xR C A pl o S1 fun S'=>qY C pl all rest S' Γ T K)→wpListIn (rd rr) 0 C.P all Q (o::rest) a w:=by
      intro S1 hM1 ht1 hw h
      obtain ⟨A,Γ',T',h⟩:=mt _ h
      unfold wpListIn
      rw [if_pos hw]
      refine pD (s_ (mr hO h)) (kW hC hM1 ht1 (mr hO h) _ _ (fun S' E' a' w' hk hS htr=>?_))
      exact gO hO hC hS htr hk hQ
    unfold qY at h
    split at h
    · rename_i hg
      have hw:Region.wanted o (yielded all a.tmps)=true:=by unfold Region.wanted; rw [hg]
      unfold zR at h
      split at h
      · split at h
        · unfold wpListIn
          rw [if_pos hw]
          split at h
          · rename_i op t x yt ho
            split at h
            · rename_i e hu
              obtain ⟨c,h,hc⟩:=bm h ht
              split at h
              · rename_i rows
                obtain ⟨hop,h1,h2⟩:=ab h
                obtain ⟨b,hrun,hbr⟩:=lS hop hu hc w x (.const (.slice none 0 0))
                have hex:(execOp a.eval o).run C.P w=.ok (.value (.bool b)) w:=by
                  have:(execOp a.eval o)=(do pure (.value (← (do eqGuard op t x (.const (.slice none 0 0)) (a.eval x) (.slice none 0 0); binOp op t (a.eval x) (.slice none 0 0):Sem Value)))):=by
                    unfold execOp
                    rw [ho]
                    simp [Act.eval]
                  rw [this,Sem.run_bind,hrun]
                  rfl
                refine pD (fun c hc=>by rw [ho] at hc; cases hc) (bk hex ?_)
                have h3:∃ Γ' T',aA o.dst (.v (.bool b)) S fun S'=>qY C pl all rest S' Γ' T' K:=by
                  rcases hbr with ⟨rfl,hr⟩ | rfl
                  · exact ⟨_,_,h1 hr⟩
                  · exact ⟨_,_,h2⟩
                obtain ⟨Γ',T',h3⟩:=h3
                rw [al] at h3
                exact gO hO hC (hM.congr aV aW a2) (ht.put (.v _ _ rfl)) h3 hQ
              · exact False.elim h
            · exact False.elim h
          · exact False.elim h
        · exact step hM ht hw h
      · exact step hM ht hw h
    · rename_i j want hg
      split at h
      · exact False.elim h
      · rename_i d hd
        obtain ⟨b,S1,h,hb,hM1,ht1⟩:=eN hM ht h
        rcases fO hg (gD hd hb) h with ⟨hw,h⟩ | ⟨hw,h⟩
        · exact step hM1 ht1 hw h
        · rw [al] at h
          unfold wpListIn
          rw [if_neg (by rw [hw]; exact fun h=>by cases h)]
          exact ⟨fun _ _=>trivial,gO hO hC (hM1.congr aV aW a2) (ht1.put (ki _)) h hQ⟩
theorem uD (hC:nW C) {ops:Array Oper} {i:Nat} {S:St} {Γ:Prop} {T:Tr ρ Γ} {K:St→TK ρ} (h:yM C pl ops i S Γ T K):∃ S1 Γ1 T1,o5 C pl ops i S (fun S'=>S'=S1)∧K S1 Γ1 T1:=by
  unfold yM at h
  unfold o5
  split at h
  · exact False.elim h
  · rename_i o ho
    rw [ho]
    dsimp only
    unfold tag at h
    unfold ag
    have key:∀ {S:St},aB (d7 pl ops o S) (oS (keyOf o) T fun A Γ T=>sk C A pl o S fun S'=>K S' Γ T)→∃ S1 Γ1 T1,jl C pl ops o S (fun S'=>S'=S1)∧K S1 Γ1 T1:=by
      intro S h
      obtain ⟨h1,h⟩:=ab h
      obtain ⟨A,Γ',T',h⟩:=mt _ h
      obtain ⟨S1,h2,h3⟩:=dn hC.det _ (nZ hC h)
      exact ⟨S1,Γ',T',af h1 (h3 _ rfl),h2⟩
    split at h
    · rename_i hg
      rw [hg]
      exact key h
    · rename_i j want hg
      rw [hg]
      dsimp only
      split at h
      · exact False.elim h
      · rename_i d hd
        rw [hd]
        dsimp only
        obtain ⟨b,S1,h1,h2⟩:=bI _ h
        unfold gsel at h1
        have h3:∃ S2 Γ2 T2,gsel b want (jl C pl ops o S1 fun S'=>S'=S2) (aA o.dst (.tup []) S1 fun S'=>S'=S2)∧K S2 Γ2 T2:=by
          unfold gsel
          split at h1
          · exact key h1
          · exact key h1
          · rw [al] at h1
            exact ⟨_,_,_,(al).2 rfl,h1⟩
        obtain ⟨S2,Γ2,T2,h3,h4⟩:=h3
        exact ⟨S2,Γ2,T2,h2 (fun b S1=>gsel b want (jl C pl ops o S1 fun S'=>S'=S2) (aA o.dst (.tup []) S1 fun S'=>S'=S2)) h3,h4⟩
theorem q0 (hC:nW C) {ops:Array Oper} {ws:List Nat}:∀ {n a:Nat} {listed:Array Bool} {t:PT} {S:St} {Γ:Prop} {T:Tr ρ Γ} {K:St→TK ρ},eK pl ops ws n a listed=some t→tT C pl ops t none S Γ T K→∃ S1 Γ1 T1,ev C pl ops ws n listed S (fun S'=>S'=S1)∧K S1 Γ1 T1
  | 0,a,listed,t,S,Γ,T,K,hp,h=>by
    unfold eK at hp
    unfold ev
    split at hp
    · cases hp
      rename_i hr
      rw [hr]
      exact ⟨S,Γ,T,rfl,h⟩
    · cases hp
  | n + 1,a,listed,t,S,Γ,T,K,hp,h=>by
    unfold eK at hp
    unfold ev
    split at hp
    · cases hp
      rename_i hr
      rw [hr]
      exact ⟨S,Γ,T,rfl,h⟩
    · rename_i r rs hr
      rw [hr]
      dsimp only
      have step:∀ {k b:Nat} {u:PT} {S:St} {Γ:Prop} {T:Tr ρ Γ} {K:St→TK ρ},eK pl ops ws n b (listed.setIfInBounds k true)=some u→(yM C pl ops k S Γ T fun S' Γ T=>tT C pl ops u none S' Γ T K)→∃ S1 Γ1 T1,(o5 C pl ops k S fun S'=>ev C pl ops ws n (listed.setIfInBounds k true) S' fun S''=>S''=S1)∧K S1 Γ1 T1:=by
        intro k b u S Γ T K hj h
        obtain ⟨S2,Γ2,T2,h1,h2⟩:=uD hC h
        obtain ⟨S3,Γ3,T3,h3,h4⟩:=q0 hC hj h2
        exact ⟨S3,Γ3,T3,aj.mono (cH hC.det) h1 (fun S' e=>by rw [e]; exact h3),h4⟩
      have alts:∀ {b:Nat} {is:List Nat} {u:PT} {S S1:St} {Γ:Prop} {T:Tr ρ Γ} {K:St→TK ρ},jc (fun i=>eK pl ops ws n b (listed.setIfInBounds i true)) is=some u→tT C pl ops u (some S1) S Γ T K →
          (sV (fun i K'=>o5 C pl ops i S fun S'=>ev C pl ops ws n (listed.setIfInBounds i true) S' K') is S1 (S1=S1))∧∃ Γ1 T1,K S1 Γ1 T1:=by
        intro b is
        induction is with
        | nil =>
          intro u S S1 Γ T K hu h
          unfold jc at hu
          cases hu
          exact ⟨rfl,_,_,h⟩
        | cons i is ih =>
          intro u S S1 Γ T K hu h
          unfold jc at hu
          split at hu
          · rename_i v hv
            split at hu
            · rename_i w hw
              cases hu
              obtain ⟨S2,Γ2,T2,h1,h2,h3⟩:=step hv h
              subst h2
              obtain ⟨h4,h5⟩:=ih hw h3
              exact ⟨aj.mono (aj.bind (cH hC.det) (fun S'=>cu hC.det _ _ _)) h1 (fun S' e=>sF ⟨e,h4⟩),h5⟩
            · cases hu
          · cases hu
      split at hp
      · rename_i k hk
        rw [hk]
        dsimp only
        split at hp
        · cases hp
          rename_i u hj
          exact step hj h
        · cases hp
      · rename_i hk
        rw [hk]
        dsimp only
        split at hp
        · split at hp
          · cases hp
            rename_i u hj
            exact step hj h
          · cases hp
        · split at hp
          · rename_i b _ _
            unfold jc at hp
            split at hp
            · rename_i v hv
              split at hp
              · rename_i w hw
                cases hp
                obtain ⟨S1,Γ1,T1,h1,h2⟩:=step hv h
                obtain ⟨h3,Γ2,T2,h4⟩:=alts hw h2
                exact ⟨S1,Γ2,T2,aj.mono (aj.bind (cH hC.det) (fun S'=>cu hC.det _ _ _)) h1 (fun S' e=>by subst e; exact h3),h4⟩
              · cases hp
            · cases hp
          · cases hp
theorem wJ (hC:nW C) {ops:Array Oper} {ws:List Nat}:∀ {n:Nat} {listed:Array Bool} {t:PT} {S:St} {Γ:Prop} {T:Tr ρ Γ} {K:St→TK ρ},p0 pl ops ws n listed=some t→tT C pl ops t none S Γ T K→∃ S1 Γ1 T1,lY C pl ops ws n listed S (fun S'=>S'=S1)∧K S1 Γ1 T1
  | 0,listed,t,S,Γ,T,K,hp,h=>q0 hC (n:=0) hp h
  | n + 1,listed,t,S,Γ,T,K,hp,h=>by
    unfold p0 at hp
    unfold lY
    split at hp
    · rename_i i hi
      rw [hi]
      dsimp only
      split at hp
      · cases hp
        rename_i u hj
        obtain ⟨S2,Γ2,T2,h1,h2⟩:=uD hC h
        obtain ⟨S3,Γ3,T3,h3,h4⟩:=wJ hC hj h2
        exact ⟨S3,Γ3,T3,aj.mono (cH hC.det) h1 (fun S' e=>by rw [e]; exact h3),h4⟩
      · cases hp
    · rename_i hi
      rw [hi]
      exact q0 hC hp h
theorem wL (hC:nW C) {ops:Array Oper} {t:PT} {S:St} {Γ:Prop} {T:Tr ρ Γ} {K:St→TK ρ} (hp:nS pl ops=some t) (h:tT C pl ops t none S Γ T K):∃ S1 Γ1 T1,oq C pl ops S (fun S'=>S'=S1)∧K S1 Γ1 T1:=by
  unfold nS at hp
  unfold oq
  split at hp
  · cases hp
  · rename_i hn
    split at hp
    · rename_i hc
      rw [hc]
      obtain ⟨S1,Γ1,T1,h1,h2⟩:=q0 hC hp h
      exact ⟨S1,Γ1,T1,af hn h1,h2⟩
    · rename_i hc
      rw [hc]
      obtain ⟨S1,Γ1,T1,h1,h2⟩:=wJ hC hp h
      exact ⟨S1,Γ1,T1,af hn h1,h2⟩
theorem lT:∀ {ids:List Nat} {S:St} {Γ:Prop} {T:Tr ρ Γ} {K:St→TK ρ},qZ ids S Γ T K→∃ S1 Γ1 T1,gp ids S (fun S'=>S'=S1)∧K S1 Γ1 T1
  | [],S,Γ,T,_,h=>⟨S,Γ,T,rfl,h⟩
  | _::_,_,_,_,_,h=>by
    obtain ⟨A,Γ',T',h⟩:=mt _ h
    obtain ⟨S1,h1,h2⟩:=gH _ (jf h)
    obtain ⟨S2,Γ2,T2,h3,h4⟩:=lT h1
    exact ⟨S2,Γ2,T2,h2 _ h3,h4⟩
theorem kG:∀ {ids:List Nat} {S:St} {Γ:Prop} {T:Tr ρ Γ} {K:St→TK ρ},od ids S Γ T K→∃ S1 Γ1 T1,e9 ids S (fun S'=>S'=S1)∧K S1 Γ1 T1
  | [],S,Γ,T,_,h=>⟨S,Γ,T,rfl,h⟩
  | _::_,_,_,_,_,h=>by
    obtain ⟨A,Γ',T',h⟩:=mt _ h
    obtain ⟨S1,h1,h2⟩:=iu _ (kE h)
    obtain ⟨S2,Γ2,T2,h3,h4⟩:=kG h1
    exact ⟨S2,Γ2,T2,h2 _ h3,h4⟩
theorem p9 {id:Nat} {S:St} {Γ:Prop} {T:Tr ρ Γ} {K:St→TK ρ} (h:sJ pl id S Γ T K):∃ S1 Γ1 T1,eG pl id S (fun S'=>S'=S1)∧K S1 Γ1 T1:=by
  unfold sJ at h
  unfold eG
  split at h
  · rename_i hc
    rw [hc]
    exact ⟨S,_,_,rfl,h⟩
  · rename_i hc
    rw [hc]
    dsimp only
    obtain ⟨S1,Γ1,T1,h1,h2⟩:=lT h
    split at h2
    · rename_i hf
      refine ⟨S1,Γ1,T1,aj.mono (eB _ _) h1 (fun S' e=>?_),h2⟩
      rw [hf]
      exact e
    · rename_i hf
      obtain ⟨S2,Γ2,T2,h3,h4⟩:=kG h2
      refine ⟨S2,Γ2,T2,aj.mono (eB _ _) h1 (fun S' e=>?_),h4⟩
      rw [hf,e]
      exact h3
def zZ (G:Gh) (K:Ex→St→TK ρ) (Q:Exit→Act→World→Prop):Prop:=∀ e S' Γ' T' E' a' w',K e S' Γ' T'→ad G pn E' S' w'→TR G E' S'.t a'→Q (w7 e) a' w'
theorem iF {cfg:iU} (hmix:cfg.P.follows .mixedOrders=true) {pl:aD}:∀ (c:Code) {S:St} {Γ:Prop} {T:Tr ρ Γ} {K:Ex→St→TK ρ},fG pl ord c=true→gV (ef cfg) (cf cfg.P) ord pl c S Γ T K →
    ∀ (r:Option Nat) (G:Gh) (E:Env) (a:Act) (w:World) (Q:Exit→Act→World→Prop),ad G pn E S w→TR G E S.t a→zZ G K Q→c.wpIn (rd r) 0 cfg.P Q a w:=by
  have hC:=sG cfg
  intro c
  induction c with
  | skip=>exact fun _ h r G E a w Q hM ht hQ=>wpIn_skip (hQ .nrm _ _ _ E _ _ h hM ht)
  | region id ops draw =>
    intro S Γ T K hB h r G E a w Q hM ht hQ
    cases draw with
    | false =>
      refine wpIn_region_list (gO hC (eT cfg) hM ht h (fun S' Γ' T' E' a' w' hk hS htr=>?_))
      obtain ⟨S1,Γ1,T1,h1,h2⟩:=p9 hk
      obtain ⟨S3,E3,rfl,hS,htr⟩:=fN hS htr h1
      obtain ⟨S2,Γ2,T2,hw,hk⟩:=uC h2
      obtain ⟨E2,hM2,ht2⟩:=hw G E3 a' w' hS htr
      exact hQ .nrm _ _ _ _ _ _ hk hM2 ht2
    | true =>
      unfold fG at hB
      have h':(match jQ ord id with
      | some is=>aB (lq pl ops) (ot (ef cfg).P (a7 ops.toList) S fun S1=>tT (ef cfg) pl ops is none S1 Γ (zL id T) fun S' Γ T=>e_ (a7 ops.toList) S' (sJ pl id S' Γ T fun S'' _ T=>yD S'' (K .nrm) T))
      | none=>ac 440):=h
      split at hB
      · rename_i is js h1 h2
        rw [h1] at h'
        dsimp only at h'
        obtain ⟨h3,h'⟩:=ab h'
        obtain ⟨S1,h4,h5⟩:=nv _ h'
        rw [kF hB] at h4
        obtain ⟨S2,Γ2,T2,h6,h7⟩:=wL hC h2 h4
        obtain ⟨h8,h9⟩:=gh h7
        obtain ⟨S3,Γ3,T3,h10,h11⟩:=p9 h8
        refine gj hmix pl id ops S (fun e S'=>e=.nrm∧S'=S3) ?_ r G E a w Q hM ht (fun e S' E' a' w' hk hS htr=>?_)
        · refine af h3 (h5 _ (aj.mono (nx hC.det) h6 (fun S' e=>?_)))
          subst e
          exact h9 _ (aj.mono iO h10 (fun S' e=>⟨rfl,e⟩))
        · obtain ⟨rfl,rfl⟩:=hk
          obtain ⟨S4,Γ4,T4,hw,hk⟩:=uC h11
          obtain ⟨E2,hM2,ht2⟩:=hw G E' a' w' hS htr
          exact hQ .nrm _ _ _ _ _ _ hk hM2 ht2
      · cases hB
  | seq x y ihx ihy =>
    intro S Γ T K hB h r G E a w Q hM ht hQ
    unfold fG at hB
    rw [Bool.and_eq_true] at hB
    refine wpIn_seq (ihx hB.1 h r G E a w _ hM ht (fun e S' Γ' T' E' a' w' hk hS htr=>?_))
    cases e with
    | nrm =>
      obtain ⟨x,Γ1,T1,hk⟩:=uA _ hk
      split at hk
      · obtain ⟨S2,h1,⟨e2,S3,h2,h3,h4⟩,h5⟩:=fT hk
        subst h3 h4
        obtain ⟨E2,hM2,ht2⟩:=((iR _ _).trans h1) G E' a' w' hS htr
        refine h2 r G E2 a' w' Q hM2 ht2 (fun e' S'' E'' a'' w'' he hS' ht'=>?_)
        obtain ⟨rfl,rfl⟩:=he
        exact hQ _ _ _ _ _ _ _ h5 hS' ht'
      · exact ihy hB.2 hk r G E' a' w' Q hS htr hQ
    | ex i=>exact hQ (.ex i) _ _ _ _ _ _ hk hS htr
    | ret=>exact hQ .ret _ _ _ _ _ _ hk hS htr
  | cond c x y ihx ihy =>
    intro S Γ T K hB h r G E a w Q hM ht hQ
    unfold fG at hB
    rw [Bool.and_eq_true] at hB
    obtain ⟨b,S1,h1,h2,h3,h4⟩:=ik hM ht h
    cases b with
    | true=>exact wpIn_cond_true h2 (ihx hB.1 h1 r G E a w Q h3 h4 hQ)
    | false=>exact wpIn_cond_false h2 (ihy hB.2 h1 r G E a w Q h3 h4 hQ)
  | block id c ih =>
    intro S Γ T K hB h r G E a w Q hM ht hQ
    refine wpIn_block (ih hB h r G E a w _ hM ht (fun e S' Γ' T' E' a' w' hk hS htr=>?_))
    cases e with
    | nrm=>exact hQ .nrm _ _ _ _ _ _ hk hS htr
    | ret=>exact hQ .ret _ _ _ _ _ _ hk hS htr
    | ex i =>
      show Exit.inBlock id Q (.exit i) a' w'
      unfold Exit.inBlock
      dsimp only at hk
      split at hk
      · rename_i hb
        have:=Nat.eq_of_beq_eq_true hb
        subst this
        simp only [if_pos]
        exact hQ .nrm _ _ _ _ _ _ hk hS htr
      · rename_i hb
        have hne:¬ i=id:=fun e=>by subst e; simp at hb
        simp only [if_neg hne]
        exact hQ (.ex i) _ _ _ _ _ _ hk hS htr
  | loop c ih =>
    intro S Γ T K hB h r G E a w Q hM ht hQ
    have h':(uw (jd c + 3000000) T fun x Γ T=>match x with
    | some (some (W,L,e,S1))=>wq L (wk W S) fun S2=>((ef cfg).loop pl c S2 fun e' S'=>e'=e∧S'=S1)∧K e S1 Γ T
    | some none=>xC (gV (ef cfg) (cf cfg.P) ord pl c) 40 S Γ T K
    | none=>ac 471):=h
    clear h
    obtain ⟨x,Γ1,T1,h⟩:=uA _ h'
    split at h
    · obtain ⟨S2,h1,h2,h3⟩:=fT h
      obtain ⟨E2,hM2,ht2⟩:=((iR _ _).trans h1) G E a w hM ht
      refine eU cfg pl c S2 _ h2 r (fun h=>by cases h) G E2 a w Q hM2 ht2 (fun e' S'' E'' a'' w'' he hS' ht'=>?_)
      obtain ⟨rfl,rfl⟩:=he
      exact hQ _ _ _ _ _ _ _ h3 hS' ht'
    · have run:∀ (n:Nat) {S:St} {Γ:Prop} {T:Tr ρ Γ},xC (gV (ef cfg) (cf cfg.P) ord pl c) n S Γ T K→∀ (E:Env) (a:Act) (w:World),ad G pn E S w→TR G E S.t a→Code.roundsIn (rd r) 0 cfg.P c Q n a w:=by
        intro n
        induction n with
        | zero=>exact fun h=>False.elim h
        | succ n ihn =>
          intro S Γ T h E a w hM ht
          refine ih hB h r G E a w _ hM ht (fun e S' Γ' T' E' a' w' hk hS htr=>?_)
          cases e with
          | nrm=>exact ihn hk E' a' w' hS htr
          | ex i=>exact hQ (.ex i) _ _ _ _ _ _ hk hS htr
          | ret=>exact hQ .ret _ _ _ _ _ _ hk hS htr
      exact wpIn_loop_rounds 40 (run 40 h E a w hM ht)
    · exact False.elim h
  | exit id=>exact fun _ h r G E a w Q hM ht hQ=>wpIn_exit (hQ (.ex id) _ _ _ E _ _ h hM ht)
  | ret=>exact fun _ h r G E a w Q hM ht hQ=>wpIn_ret (hQ .ret _ _ _ E _ _ h hM ht)
  | _=>exact fun _ h=>False.elim h
theorem cf.ofT {cfg:iU} (hmix:cfg.P.follows .mixedOrders=true) {pl:aD} {c:Code} {S:St} {out:ρ→Ex×St} {r:ρ} {T:Tr ρ True} (hB:fG pl ord c=true)
    (h:yE (ef cfg) (cf cfg.P) ord pl c S r out T):cf cfg.P c S fun e S'=>(e,S')=out r:=by
  refine ⟨(out r).1,(out r).2,fun r G E a w Q hM ht hQ=>?_,rfl⟩
  refine iF hmix c hB h r G E a w Q hM ht (fun e' S' Γ' T' E' a' w' hk hS htr=>?_)
  obtain ⟨S2,Γ2,T2,hw,hk⟩:=uB hk
  obtain ⟨E2,hM2,ht2⟩:=hw G E' a' w' hS htr
  split at hk
  · obtain ⟨rfl,h2⟩:=hk
    rw [← h2] at hQ
    exact hQ _ _ _ _ _ ⟨rfl,rfl⟩ hM2 ht2
  · exact False.elim hk
theorem z1 {α β:Type} {out:α⊕β→Ex×St} (h:∀ a,(out (.inl a)).1≠.nrm) (k:∀ b,(out (.inr b)).1≠.nrm):∀ t,(out t).1≠.nrm
  | .inl a=>h a
  | .inr b=>k b
theorem cf.ofL {cfg:iU} (hmix:cfg.P.follows .mixedOrders=true) {pl:aD} {c:Code} {S:St} {σ τ:Type} {Sf:σ→St} {out:τ→Ex×St} (hne:∀ t,(out t).1≠.nrm) {r:σ⊕τ} {T:Tr (σ⊕τ) True} (hB:fG pl ord c=true)
    (h:xT (ef cfg) (cf cfg.P) ord pl c S r Sf out T):cf cfg.P c S (rk Sf out r):=by
  have key:∀ (q:Ex×St),(∀ s,r=.inl s→q=(.nrm,Sf s))→(∀ t,r=.inr t→q=out t)→∀ (r':Option Nat) (G:Gh) (E:Env) (a:Act) (w:World) (Q:Exit→Act→World→Prop),ad G pn E S w→TR G E S.t a→vD G (fun e' S''=>e'=q.1∧S''=q.2) Q→c.wpIn (rd r') 0 cfg.P Q a w:=by
    intro q h1 h2 r' G E a w Q hM ht hQ
    refine iF hmix c hB h r' G E a w Q hM ht (fun e' S' Γ' T' E' a' w' hk hS htr=>?_)
    obtain ⟨S2,Γ2,T2,hw,hk⟩:=uB hk
    obtain ⟨E2,hM2,ht2⟩:=hw G E' a' w' hS htr
    split at hk
    · split at hk
      · split at hk
        · obtain ⟨h3,rfl⟩:=hk
          have:=h1 _ h3.symm
          exact hQ .nrm _ _ _ _ ⟨by rw [this],by rw [this]⟩ hM2 ht2
        · exact False.elim hk
      · split at hk
        · exact False.elim hk
        · obtain ⟨h3,h4⟩:=hk
          have:=h2 _ h3.symm
          exact hQ _ _ _ _ _ ⟨by rw [this,← h4],by rw [this,← h4]⟩ hM2 ht2
    · exact False.elim hk
  cases r with
  | inl s=>exact ⟨.nrm,Sf s,key (.nrm,Sf s) (fun _ e=>by cases e; rfl) (fun _ e=>by cases e),zW⟩
  | inr t=>exact ⟨(out t).1,(out t).2,key (out t) (fun _ e=>by cases e) (fun _ e=>by cases e; rfl),hne t,rfl,rfl⟩
theorem lU {cfg:iU} (hN:fP cfg.P) (hmix:cfg.P.follows .mixedOrders=true) {f:Nat} {args:List AV} {o:List Ob} {T:Tr ρ True} {K:AV→St→TK ρ} (hB:fG (cfg.pol f) ord (iD cfg.P f)=true) (h:uz (ef cfg) (cf cfg.P) ord f args o T K) :
    j2 cfg.P f∧∀ (G:Gh) (E:Env) (w:World) (us:Array Value),ad G pn E (og o o.length) w→qh E→aO E args us.toList→Calls cfg.P f us w fun e w'=>∃ v r S' E',(∃ Γ' T',K r S' Γ' T')∧e=.returned v∧ad G pn E' S' w'∧VR E' r v:=by
  unfold uz at h
  split at h
  · rename_i fn hf
    split at h
    · rename_i c hb
      have hb0:cfg.P.funcs[f]?=some fn:=hf
      refine ⟨⟨fn,c,hb0,hb,hN f fn hb0⟩,fun G E w us hM hg hv=>?_⟩
      refine kh.1 (callsIn_of_wp_marks (F:=rd none) (n:=0) hb0 hb trivial ?_)
      have hl:args.length=us.size:=by simpa using hv.1
      unfold iD at hB
      rw [hb0] at hB
      dsimp only at hB
      rw [hb] at hB
      refine iF hmix c hB h none G E _ w _ (hM.congr rfl rfl rfl) ⟨?_,fun n c' u h1 h2=>?_,⟨[],rfl,List.nodup_nil,fun B h=>by cases h⟩,hg⟩ (fun e S' Γ' T' E' a' w' hk hS htr=>?_)
      · simp [ng,hl]
      · dsimp only at h1 h2
        by_cases hn:n<args.length
        · rw [List.getElem?_append_left hn] at h1
          rw [Array.getElem?_append_left (by omega)] at h2
          exact hv.2 n c' u h1 (by simpa using h2)
        · rw [List.getElem?_append_right (by omega)] at h1
          rw [nf h1]
          exact .bad _ _
      · have jR:(lZ cfg.P S' fn.results.toList fun rs=>ou rs fun r=>K r S' Γ' T')→LeavesInM (rd none) 0 cfg.P fn a'.tmps (fun e w'=>∃ v r S' E',(∃ Γ' T',K r S' Γ' T')∧e=.returned v∧ad G pn E' S' w'∧VR E' r v) a'.defers .returning w':=fun hk=>by
          obtain ⟨Bs,h1,h2,h3⟩:=htr.df
          rw [h1]
          refine il Bs hS h2 (fun B hB=>⟨(h3 B hB).1,(h3 B hB).2.2⟩) (fun E2 w2 hS2 hL=>?_)
          obtain ⟨r,u,hk',hr,hrun⟩:=i8 (P:=cfg.P) (k:=fun r=>K r S' Γ' T') (a:={ tmps:=a'.tmps,defers:=[] }) hS2 ⟨htr.len,fun n c u h1 h2=>(htr.val n c u h1 h2).monoC hL,⟨[],rfl,List.nodup_nil,fun B h=>by cases h⟩,htr.gt.monoC hL⟩ hk
          exact ⟨u,hrun,u,r,S',E2,⟨_,_,hk'⟩,rfl,hS2,hr⟩
        cases e with
        | ex i=>exact False.elim hk
        | nrm=>exact jR hk
        | ret=>exact jR hk
    · exact False.elim h
  · exact False.elim h
theorem bW.ofT {cfg:iU} (hN:fP cfg.P) (hmix:cfg.P.follows .mixedOrders=true) {f:Nat} {args:List AV} {r:ρ} {enc:ρ→AV} {T:Tr ρ True} (hB:fG (cfg.pol f) ord (iD cfg.P f)=true) (h:xV (ef cfg) (cf cfg.P) ord f args r enc T):bW cfg.P f args (fun x=>x=enc r):=by
  obtain ⟨h1,h2⟩:=lU hN hmix hB h
  refine ⟨enc r,⟨h1,fun F w us hF hg hv=>?_⟩,rfl⟩
  have hM:ad { w0:=w,M:=fun _=>False,F:=F,mu:=fun _=>none } pn ⟨F,fun _=>none,w.heap⟩ (og [] 0) w :=
    ⟨rfl,rfl,rfl,rfl,Nat.le_refl _,fun _ _ _=>rfl,fun _ h=>h,hF,fun _ h _=>.inl h,fun _ _ _ _ _ h=>(by cases h),fun _ _ _ _ _ _ _ _ _ h _=>(by cases h),fun _=>rfl,fun _=>trivial,fun _ h=>(by cases h),Nat.le_refl _,fun _ _=>rfl,fun _ _ h=>(by cases h),fun _ _=>rfl⟩
  refine (h2 _ _ w us hM hg hv).mono ?_
  rintro e w' ⟨v,c,S',E',⟨Γ',T',hk⟩,rfl,hS,hr⟩
  unfold qb at hk
  split at hk
  · rename_i b hb
    rw [aQ] at hk
    have hd:=cX hS _ hb hr (ids:=bE S'.o 6 c) (fun i hi=>hi)
    have hle:iB b (enc r):=by
      split at hk
      · obtain ⟨rfl,h3⟩:=hk
        exact h3
      · obtain ⟨rfl,h3⟩:=hk
        exact h3
      · obtain ⟨rfl,h3⟩:=hk
        exact oc _ _ _ h3
      · exact False.elim hk
    refine ⟨v,FD E' (bE S'.o 6 c),rfl,?_,⟨hS.os,hS.tape,hS.output,hS.size,fun b' hb'=>hS.keep b' hb' (fun h=>h)⟩,fun b' h=>.inl (hS.F0 b' h),vW hS,fun b' h hlt=>?_⟩
    · have e:(⟨FD E' (bE S'.o 6 c),fun _=>none,w'.heap⟩:Env)=E'.fd (bE S'.o 6 c):=by
        unfold Env.fd
        rw [hS.hp]
      rw [e]
      exact hle _ _ hd
    · rcases h with h | ⟨id,_,o',s,n,h⟩
      · rcases hS.Fnew b' h hlt with h3 | h3
        · exact h3
        · exact h3.elim
      · rcases (hS.own _ _ _ _ _ h).2.2 with h3 | h3
        · exact h3.elim
        · have h3:w.heap.size≤b':=h3
          omega
  · exact False.elim hk
theorem SD.ofT {cfg:iU} (hN:fP cfg.P) (hmix:cfg.P.follows .mixedOrders=true) {f:Nat} {args:List AV} {o:List Ob} {r:ρ} {out:ρ→AV×List Ob} {T:Tr ρ True} (hB:fG (cfg.pol f) ord (iD cfg.P f)=true) (h:yF (ef cfg) (cf cfg.P) ord f args o r out T):SD cfg.P f args o (fun r' o'=>r'=(out r).1∧o'=(out r).2):=by
  obtain ⟨h1,h2⟩:=lU hN hmix hB h
  refine ⟨(out r).1,(out r).2,⟨h1,fun E w us hM hg hv=>(h2 _ E w us hM hg hv).mono ?_⟩,rfl,rfl⟩
  rintro e w' ⟨v,c,S',E',⟨Γ',T',hk⟩,rfl,hS,hr⟩
  obtain ⟨hb,hk⟩:=ab hk
  split at hk
  · obtain ⟨rfl,h5⟩:=hk
    rw [← h5]
    simp only [Bool.and_eq_true] at hb
    have:=hS.obj_only
    rw [Nat.eq_of_beq_eq_true hb.2] at this
    exact ⟨v,c,S'.o,E'.ob,⟨rfl,rfl⟩,rfl,this,dv 4 hb.1 hr⟩
  · exact False.elim hk
end
abbrev vA (k:Nat) (v:AV):bP:=⟨[],[],[],[(k,v)],[],[],[],[],[]⟩
abbrev rA (k:Nat) (x:List AV):bP:=⟨[],[],[(k,x)],[],[],[],[],[],[]⟩
abbrev cA (k:Nat) (v:AV):bP:=⟨[],[],[],[],[(k,v)],[],[],[],[]⟩
abbrev hA (k:Nat):bP:=⟨[],[k],[],[],[],[],[],[],[]⟩
abbrev nA (k:Nat) (x:oM):bP:=⟨[],[],[],[],[],[],[],[],[(k,x)]⟩
abbrev mA (k:Nat) (x:List (AV×AV)):bP:=⟨[],[],[],[],[],[],[],[(k,x)],[]⟩
abbrev oA (k i:Nat) (x:List (List AV)):bP:=⟨[],[],[],[],[],[],[(k,(i,x))],[],[]⟩
abbrev z6 (k:Nat) (v w:AV):bP:=⟨[],[],[],[(k,w)],[(k,v)],[],[],[],[]⟩
abbrev z7 (k:Nat) (v:AV):bP:=⟨[],[k],[],[(k,v)],[],[],[],[],[]⟩
abbrev zS (k i:Nat) (x:List (List AV)):bP:=⟨[],[k],[],[],[],[],[(k,(i,x))],[],[]⟩
abbrev z3 (k:Nat) (r:List AV) (i:Nat) (x:List (List AV)):bP:=⟨[],[],[(k,r)],[],[],[],[(k,(i,x))],[],[]⟩
abbrev sA (k:Nat) (v:AV×List Ob):bP:=⟨[],[],[],[],[],[(k,v)],[],[],[]⟩
abbrev wK (a b:List Nat) (c:Nat):Wk:=⟨a,b,c,[],[],[]⟩
abbrev l0:Le:=⟨[],[],[]⟩
theorem cB {a b:Bool} (h:a=b):AV.v (.bool a)=AV.v (.bool b):=congrArg yY h
theorem eS {α:Type} {m:Option α} {x y:α} (h:m=some x) (k:x=y):m=some y:=k▸h
abbrev cP (P:Program) {ρ:Type} (m:Option ρ) (f:Nat) (as:List AV) (enc:ρ→AV):Prop:=∀ r,m=some r→bW P f as (fun x=>x=enc r)
abbrev cS (P:Program) {ρ:Type} (m:Option ρ) (f:Nat) (as:List AV) (o:List Ob) (R:ρ→AV×List Ob):Prop:=∀ y,m=some y→SD P f as o (fun r' o'=>r'=(R y).1∧o'=(R y).2)
section
variable {ρ:Type} {Γ:Prop}
def tB (k:Nat) (b:Bool) (t:Tr ρ (Γ∧b=true)) (e:Tr ρ (Γ∧b=false)):Tr ρ Γ :=
  .ite k b (.op k (vA k (.v (.bool true))) (.o (AV.v (.bool b)=AV.v (.bool true)) (fun g=>cB g.2) t)) (.op k (vA k (.v (.bool false))) (.o (AV.v (.bool b)=AV.v (.bool false)) (fun g=>cB g.2) e))
def tG (k:Nat) (b:Bool) (t:Tr ρ (Γ∧b=true)):Tr ρ Γ:=.ite k b t .bad
def tL (k:Nat) {α:Type} (f:α→List AV) (l:List α) (r:Tr ρ Γ):Tr ρ Γ :=
  .op k (vA k (.v (.int .i64 (l.length:Int)))) (.o (AV.v (.int .i64 (((l.map f).length:Nat):Int))=AV.v (.int .i64 (l.length:Int))) (fun _=>xw f l) r)
def tI (k:Nat) {α:Type} (f:α→List AV) (l:List α) (i:Int) (r:(x:α)→Tr ρ (Γ∧lW l i=some x)):Tr ρ Γ :=
  .bind k (lW l i) fun x=>.op k (rA k (f x)) (.o (yo (l.map f) i=some (f x)) (fun g=>yz f g.2) (r x))
def tC (k:Nat) {α:Type} {m:Option α} {P:Program} {f:Nat} {as:List AV} {enc:α→AV} (h:cP P m f as enc) (r:(y:α)→Tr ρ (Γ∧m=some y)):Tr ρ Γ :=
  .bind k m fun y=>.op k (cA k (enc y)) (.o (bW P f as (fun x=>x=enc y)) (fun g=>h y g.2) (r y))
end
end A
end Go.Proofs.Ytaekcekecdocnaa
