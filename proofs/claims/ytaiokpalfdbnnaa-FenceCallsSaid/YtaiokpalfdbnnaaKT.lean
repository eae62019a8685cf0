/- The evaluator along trees; contracts out of it. Nothing is claimed here of the program. -/
import Derived.Test.YtaiokpalfdbnnaaKB
namespace Go.Proofs.Ytaiokpalfdbnnaa
namespace A
open Go
def HM:Nat→AV→List Nat
  | 0,_=>[]
  | n + 1,a=>match a with
    | .mf id | .msl id _ _ _ | .mp id | .ptr (.O id) _ _ | .bsl (.O id) _ _=>[id]
    | .agg cs | .tup cs=>cs.flatMap (HM n)
    | .fn _ x y=>x.flatMap (HM n)++y.flatMap (HM n)
    | _=>[]
def swp (b:Nat) (a:AV) (o:List Ob):List Nat:=(CZ b (o.length - b)).filter fun i=>!(cV (HM 4 a) i)
def DL:List Nat→AV→List Ob→AV×List Ob
  | [],a,o=>(a,o)
  | id::ids,a,o=>match Nat.blt id o.length with
    | true=>DL ids (cX 4 (.O id) a) ((o.map (dT (.O id))).set id .dead)
    | false=>DL ids a o
def Jc:Ob→Bool
  | .dead=>true
  | .arr true _ _=>true
  | _=>false
def JY:AV→Option Nat
  | .mf i=>some i
  | .tup [.mf i,.v _]=>some i
  | _=>none
def KU (b:Nat):AV→AV
  | .mf _=>.mf b
  | .tup [.mf _,.v x]=>.tup [.mf b,.v x]
  | a=>a
def fin (b:Nat) (a:AV) (o:List Ob):AV×List Ob :=
  match JY a with
  | some i=>match Nat.ble b i&&(o.take b).all Jc,o[i]? with
    | true,some (.arr true sz rows)=>(KU b a,o.take b++[.arr true sz rows])
    | _,_=>DL (swp b a o) a o
  | none=>DL (swp b a o) a o
open Go.RowKit (Below)
inductive Tr (ρ:Type):Prop→Type 1 where
  | ret {Γ:Prop} (x:ρ):Tr ρ Γ
  | rp {Γ:Prop} (x:ρ) (Q:Prop) (h:Γ→Q):Tr ρ Γ
  | rq {Γ:Prop} (x:ρ):Tr ρ Γ
  | bad {Γ:Prop}:Tr ρ Γ
  | op {Γ:Prop} (k:Nat) (A:dG) (r:Tr ρ Γ):Tr ρ Γ
  | o {Γ:Prop} (P:Prop) (h:Γ→P) (r:Tr ρ Γ):Tr ρ Γ
  | rg {Γ:Prop} (i:Nat) (r:Tr ρ Γ):Tr ρ Γ
  | ite {Γ:Prop} (k:Nat) (b:Bool) (t:Tr ρ (Γ∧b=true)) (e:Tr ρ (Γ∧b=false)):Tr ρ Γ
  | bind {Γ:Prop} (k:Nat) {α:Type} (m:Option α) (f:(x:α)→Tr ρ (Γ∧m=some x)):Tr ρ Γ
  | alt {Γ:Prop} (k:Nat) {α β:Type} (y:α⊕β) (f:(x:α)→Tr ρ (Γ∧y=.inl x)) (g:(x:β)→Tr ρ (Γ∧y=.inr x)):Tr ρ Γ
  | opt {Γ:Prop} (k:Nat) {α:Type} (y:Option α) (a:Tr ρ (Γ∧y=none)) (f:(x:α)→Tr ρ (Γ∧y=some x)):Tr ρ Γ
  | dem {Γ:Prop} (k:Nat) (P:Prop) (a:Tr ρ (Γ∧P)) (r:Tr ρ Γ):Tr ρ Γ
  | lp {Γ:Prop} (k:Nat) (W:Wk) (L:Le) (e:Ex) (S:St) (r:Tr ρ Γ):Tr ρ Γ
  | un {Γ:Prop} (k:Nat) (r:Tr ρ Γ):Tr ρ Γ
  | wk {Γ:Prop} (W:Wk) (L:Le) (r:Tr ρ Γ):Tr ρ Γ
  | wr {Γ:Prop} (ds:List Nat) (L:Le) (r:Tr ρ Γ):Tr ρ Γ
noncomputable def Tr.eval {ρ:Type}:{Γ:Prop}→Tr ρ Γ→Option ρ
  | _,.ret x=>some x
  | _,.rp x _ _=>some x
  | _,.rq x=>some x
  | _,.bad=>none
  | _,.op _ _ r=>r.eval
  | _,.o _ _ r=>r.eval
  | _,.rg _ r=>r.eval
  | _,.ite _ b t e=>if b=true then t.eval else e.eval
  | _,.bind _ m f=>m.bind fun x=>(f x).eval
  | _,.alt _ y f g=>Sum.elim (fun x=>(f x).eval) (fun x=>(g x).eval) y
  | _,.opt _ y a f=>matchO y a.eval fun x=>(f x).eval
  | _,.dem _ P a r=>r.eval.bind fun x=>@_root_.ite _ (P→a.eval=some x) (Classical.propDecidable _) (some x) none
  | _,.lp _ _ _ _ _ r=>r.eval
  | _,.un _ r=>r.eval
  | _,.wk _ _ r=>r.eval
  | _,.wr _ _ r=>r.eval
def Tr.prop {ρ:Type} (r:ρ) (Q:ρ→Prop):{Γ:Prop}→Tr ρ Γ→Prop
  | _,.ret x=>x=r∧Q x
  | _,.rp x Q' _=>x=r∧Q'
  | _,.rq x=>x=r∧true=true
  | _,.bad=>False
  | _,.op _ _ t=>t.prop r Q
  | _,.o P _ t=>P∧t.prop r Q
  | _,.rg _ t=>t.prop r Q
  | _,.ite _ b t e=>(b=true∧t.prop r Q)∨(b=false∧e.prop r Q)
  | _,.bind _ m f=>∃ x,m=some x∧(f x).prop r Q
  | _,.alt _ y f g=>(∃ x,y=.inl x∧(f x).prop r Q)∨(∃ x,y=.inr x∧(g x).prop r Q)
  | _,.opt _ y a f=>(y=none∧a.prop r Q)∨(∃ x,y=some x∧(f x).prop r Q)
  | _,.dem _ P a t=>(P→a.prop r Q)∧t.prop r Q
  | _,.lp _ _ _ _ _ t=>t.prop r Q
  | _,.un _ t=>t.prop r Q
  | _,.wk _ _ t=>t.prop r Q
  | _,.wr _ _ t=>t.prop r Q
theorem Tr.holds {ρ:Type} {r:ρ} {Q:ρ→Prop} (hQ:∀ x,Q x) {Γ:Prop} (T:Tr ρ Γ):Γ→T.eval=some r→T.prop r Q:=by
  induction T with
  | ret x=>exact fun _ h=>⟨KB h,hQ x⟩
  | rp x Q' h'=>exact fun hg h=>⟨KB h,h' hg⟩
  | rq x=>exact fun _ h=>⟨KB h,rfl⟩
  | bad=>exact fun _ h=>by cases h
  | o P h' t ih=>exact fun hg h=>⟨h' hg,ih hg h⟩
  | op _ _ t ih | rg _ t ih | lp _ _ _ _ _ t ih | un _ t ih | wk _ _ t ih | wr _ _ t ih=>exact fun hg h=>ih hg h
  | ite k b t e iht ihe =>
    intro hg h
    rcases KN (b:=b) h with ⟨hb,h⟩ | ⟨hb,h⟩
    · exact .inl ⟨hb,iht ⟨hg,hb⟩ h⟩
    · exact .inr ⟨hb,ihe ⟨hg,hb⟩ h⟩
  | bind k m f ih =>
    intro hg h
    obtain ⟨x,hx,h⟩:=H_ (x:=m) h
    exact ⟨x,hx,ih x ⟨hg,hx⟩ h⟩
  | alt k y f g ihf ihg =>
    intro hg h
    cases y with
    | inl x=>exact .inl ⟨x,rfl,ihf x ⟨hg,rfl⟩ h⟩
    | inr x=>exact .inr ⟨x,rfl,ihg x ⟨hg,rfl⟩ h⟩
  | opt k y a f iha ihf =>
    intro hg h
    rcases Hl (x:=y) h with ⟨hy,h⟩ | ⟨z,hz,h⟩
    · exact .inl ⟨hy,iha ⟨hg,hy⟩ h⟩
    · exact .inr ⟨z,hz,ihf z ⟨hg,hz⟩ h⟩
  | dem k P a t iha iht =>
    intro hg h
    obtain ⟨x,hx,h⟩:=H_ (x:=t.eval) h
    split at h
    · rename_i hp
      have:=KB h
      subst this
      exact ⟨fun p=>iha ⟨hg,p⟩ (hp p),iht hg hx⟩
    · cases h
def Jd (f:AV→AV→Bool):List AV→List AV→Bool
  | [],[]=>true
  | x::xs,y::ys=>f x y&&Jd f xs ys
  | _,_=>false
def KG (f:AV→AV→Bool):List (List AV)→List (List AV)→Bool
  | [],[]=>true
  | x::xs,y::ys=>Jd f x y&&KG f xs ys
  | _,_=>false
def JZ:List (List AV)→Bool
  | []=>true
  | _=>false
def leB:Nat→AV→AV→Bool
  | 0,_,_=>false
  | n + 1,a,b=>match a,b with
    | .v (.bool x),.v (.bool y)=>x==y
    | .v (.int k x),.v (.int l y)=>decide (k=l)&&(x==y)
    | .v (.string x),.v (.string y)=>x.data.toList==y.data.toList
    | .nilp,.nilp=>true
    | .nilsl,.sl r=>JZ r
    | .esl,.sl r=>JZ r
    | .sl r,.sl s=>KG (leB n) r s
    | .agg r,.agg s=>Jd (leB n) r s
    | .tup r,.tup s=>Jd (leB n) r s
    | .fptr r i,.fptr s j=>Nat.beq i j&&Jd (leB n) r s
    | _,_=>false
theorem xi {f:AV→AV→Bool} (hf:∀ a b,f a b=true→d8 a b):∀ {r s:List AV},Jd f r s=true→c8 r s
  | [],[],_=>.nil
  | _::_,_::_,h=>by
    unfold Jd at h
    rw [Bool.and_eq_true] at h
    exact .cons (hf _ _ h.1) (xi hf h.2)
  | [],_::_,h=>by cases h
  | _::_,[],h=>by cases h
theorem Gw {f:AV→AV→Bool} (hf:∀ a b,f a b=true→d8 a b):∀ {r s:List (List AV)},KG f r s=true→j1 r s
  | [],[],_=>.nil
  | _::_,_::_,h=>by
    unfold KG at h
    rw [Bool.and_eq_true] at h
    exact .cons (xi hf h.1) (Gw hf h.2)
  | [],_::_,h=>by cases h
  | _::_,[],h=>by cases h
theorem xj:∀ (n:Nat) (a b:AV),leB n a b=true→d8 a b
  | 0,_,_,h=>by cases h
  | n + 1,a,b,h=>by
    unfold leB at h
    split at h
    · rw [eq_of_beq h]
      exact .refl _
    · rw [Bool.and_eq_true] at h
      rw [of_decide_eq_true h.1,eq_of_beq h.2]
      exact .refl _
    · rename_i x y
      obtain ⟨⟨x⟩⟩:=x
      obtain ⟨⟨y⟩⟩:=y
      have:x=y:=eq_of_beq h
      rw [this]
      exact .refl _
    · exact .refl _
    · rename_i r
      cases r with
      | nil=>exact .nil
      | cons _ _=>cases h
    · rename_i r
      cases r with
      | nil=>exact .esl
      | cons _ _=>cases h
    · exact .sl (Gw (xj n) h)
    · exact .agg (xi (xj n) h)
    · exact .tup (xi (xj n) h)
    · rw [Bool.and_eq_true] at h
      rw [Nat.eq_of_beq_eq_true h.1]
      exact .fptr (xi (xj n) h.2)
    · cases h
def A0:dG:=⟨[],[],[],[],[],[],[],[],[]⟩
def Je {ρ:Type}:{Γ:Prop}→Tr ρ Γ→Tr ρ Γ
  | _,.o _ _ r=>Je r
  | _,T=>T
abbrev TK (ρ:Type):Type 1:=(Γ:Prop)→Tr ρ Γ→Prop
def x9 {ρ:Type} (k:Nat):{Γ:Prop}→Tr ρ Γ→(dG→TK ρ)→Prop
  | _,.op j A r,F=>match Nat.beq j k with
    | true=>F A _ (Je r)
    | false=>F A0 _ (.op j A r)
  | _,.ite j b t e,F=>match Nat.beq j k with
    | true=>(b=true∧x9 k t F)∨(b=false∧x9 k e F)
    | false=>F A0 _ (.ite j b t e)
  | _,.bind j m f,F=>match Nat.beq j k with
    | true=>∃ x,m=some x∧x9 k (f x) F
    | false=>F A0 _ (.bind j m f)
  | _,.alt j y f g,F=>match Nat.beq j k with
    | true=>(∃ x,y=.inl x∧x9 k (f x) F)∨(∃ x,y=.inr x∧x9 k (g x) F)
    | false=>F A0 _ (.alt j y f g)
  | _,.opt j y a f,F=>match Nat.beq j k with
    | true=>(y=none∧x9 k a F)∨(∃ x,y=some x∧x9 k (f x) F)
    | false=>F A0 _ (.opt j y a f)
  | _,.bad,_=>False
  | _,T,F=>F A0 _ T
def DN {ρ:Type} (k:Nat):{Γ:Prop}→Tr ρ Γ→(Option (Option (Wk×Le×Ex×St))→TK ρ)→Prop
  | _,.lp j W L e S r,F=>match Nat.beq j k with
    | true=>F (some (some (W,L,e,S))) _ (Je r)
    | false=>F none _ (.lp j W L e S r)
  | _,.un j r,F=>match Nat.beq j k with
    | true=>F (some none) _ r
    | false=>F none _ (.un j r)
  | _,.ite j b t e,F=>match Nat.beq j k with
    | true=>(b=true∧DN k t F)∨(b=false∧DN k e F)
    | false=>F none _ (.ite j b t e)
  | _,.bind j m f,F=>match Nat.beq j k with
    | true=>∃ x,m=some x∧DN k (f x) F
    | false=>F none _ (.bind j m f)
  | _,.alt j y f g,F=>match Nat.beq j k with
    | true=>(∃ x,y=.inl x∧DN k (f x) F)∨(∃ x,y=.inr x∧DN k (g x) F)
    | false=>F none _ (.alt j y f g)
  | _,.bad,_=>False
  | _,T,F=>F none _ T
def KV {ρ:Type} (i:Nat):{Γ:Prop}→Tr ρ Γ→Tr ρ Γ
  | _,.rg j r=>match Nat.beq j i with
    | true=>r
    | false=>.rg j r
  | _,T=>T
def KH {ρ:Type} (S:St) (K:St→TK ρ):{Γ:Prop}→Tr ρ Γ→Prop
  | Γ,.wk W L r=>Gb L (wk W S) fun S'=>K S' Γ (Je r)
  | Γ,T=>K S Γ T
def qy:List Nat→St→St
  | [],S=>S
  | d::ds,S=>match Nat.ble 10000 d with
    | true=>match Nat.ble 30000 d with
      | true=>qy ds (uY [d - 30000] S)
      | false=>match Nat.ble 20000 d with
        | true=>qy ds (br (d - 20000) S)
        | false=>qy ds (uY [d] S)
    | false=>match S.t[d]? with
      | some (.msl id 0 len _)=>match S.o[id]? with
        | some (.arr true sz rows)=>match Nat.ble S.b id with
          | true=>qy ds { t:=(br id S).t.set d (.mf id),l:=(br id S).l,o:=(br id S).o.set id (.arr true sz (rows.take len)),b:=S.b }
          | false=>qy ds S
        | _=>qy ds S
      | _=>qy ds S
def Jf {ρ:Type} (S:St) (K:St→TK ρ):{Γ:Prop}→Tr ρ Γ→Prop
  | Γ,.wr ds L r=>Gb L (qy ds S) fun S'=>K S' Γ (Je r)
  | Γ,.ite j b t e=>match Nat.beq j 5000000 with
    | true=>(b=true∧Jf S K t)∨(b=false∧Jf S K e)
    | false=>K S Γ (.ite j b t e)
  | _,.bad=>False
  | Γ,T=>K S Γ T
def MB {ρ:Type} (P:Program) (o:Oper) (S:St) (F:Prop) (K:St→TK ρ):{Γ:Prop}→Tr ρ Γ→Prop
  | _,.dem j _ a r=>match Nat.beq j (keyOf o) with
    | true=>match o.op with
      | .binOp op t x (.const (.slice none 0 0)) _=>match P.underlying t with
        | some (.slice _)=>cR S x fun v=>match v with
          | .sl rows=>bG (I7 op) ((rows=[]→bB o.dst (.v (.bool (zg op))) S fun S'=>K S' _ a)∧bB o.dst (.v (.bool (!(zg op)))) S fun S'=>K S' _ (Je r))
          | _=>af 460
        | _=>af 461
      | _=>af 462
    | false=>F
  | _,_=>F
section
variable {ρ:Type} (C:Ctx) (cd:HI) (ord:List (Nat×PT)) (pl:bK)
def Ah (all:Array Oper):List Oper→St→(Γ:Prop)→Tr ρ Γ→(St→TK ρ)→Prop
  | [],S,Γ,T,K=>K S Γ T
  | o::rest,S,Γ,T,K =>
    match o.guard with
    | none=>MB C.P o S (x9 (keyOf o) T fun A Γ T=>Il C A pl o S fun S'=>Ah all rest S' Γ T K) (fun S' Γ T=>Ah all rest S' Γ T K) T
    | some (j,want) =>
      match rD all j with
      | none=>af 218
      | some d=>gn d S fun b S1=>gsel b want (x9 (keyOf o) T fun A Γ T=>Il C A pl o S1 fun S'=>Ah all rest S' Γ T K) (bB o.dst (.tup []) S1 fun S'=>Ah all rest S' Γ T K)
def tag (all:Array Oper) (o:Oper) (S:St) (Γ:Prop) (T:Tr ρ Γ) (K:St→TK ρ):Prop :=
  match o.guard with
  | none=>bG (jk pl all o S) (x9 (keyOf o) T fun A Γ T=>By C A pl o S fun S'=>K S' Γ T)
  | some (j,want) =>
    match rD all j with
    | none=>af 218
    | some d=>gn d S fun b S1=>gsel b want (bG (jk pl all o S1) (x9 (keyOf o) T fun A Γ T=>By C A pl o S1 fun S'=>K S' Γ T)) (bB o.dst (.tup []) S1 fun S'=>K S' Γ T)
def JE (ai:Array Oper) (i:Nat) (S:St) (Γ:Prop) (T:Tr ρ Γ) (K:St→TK ρ):Prop :=
  match ai[i]? with
  | none=>af 303
  | some o=>tag C pl ai o S Γ T K
def tT (ai:Array Oper):PT→Option St→St→(Γ:Prop)→Tr ρ Γ→(St→TK ρ)→Prop
  | .done,m,S,Γ,T,K=>match m with
    | none=>K S Γ T
    | some S1=>K S1 Γ T
  | .go i t,m,S,Γ,T,K=>match m with
    | none=>JE C pl ai i S Γ T fun S' Γ T=>tT ai t none S' Γ T K
    | some _=>af 305
  | .alt i t r,m,S,Γ,T,K=>match m with
    | none=>JE C pl ai i S Γ T fun S' Γ T=>tT ai t none S' Γ T fun S1 Γ T=>tT ai r (some S1) S Γ T K
    | some S1=>JE C pl ai i S Γ T fun S' Γ T=>tT ai t none S' Γ T fun S2 Γ T=>S2=S1∧tT ai r (some S1) S Γ (Je T) K
def Ai:List Nat→St→(Γ:Prop)→Tr ρ Γ→(St→TK ρ)→Prop
  | [],S,Γ,T,K=>K S Γ T
  | id::ids,S,_,T,K=>x9 (id + 2000000) T fun A Γ T=>pO A S id fun S'=>Ai ids S' Γ T K
def xk:List Nat→St→(Γ:Prop)→Tr ρ Γ→(St→TK ρ)→Prop
  | [],S,Γ,T,K=>K S Γ T
  | id::ids,S,_,T,K=>x9 (id + 6000000) T fun A Γ T=>r8 A S id fun S'=>xk ids S' Γ T K
def BQ (id:Nat) (S:St) (Γ:Prop) (T:Tr ρ Γ) (K:St→TK ρ):Prop :=
  match cV pl.cl id with
  | false=>K S Γ T
  | true=>Ai (Ce S.o.length) S Γ T fun S1 Γ T=>match cV pl.fr id with
    | false=>K S1 Γ T
    | true=>xk (Ce S1.o.length) S1 Γ T K
def HN (step:St→(Γ:Prop)→Tr ρ Γ→(Ex→St→TK ρ)→Prop):Nat→St→(Γ:Prop)→Tr ρ Γ→(Ex→St→TK ρ)→Prop
  | 0,_,_,_,_=>af 470
  | n + 1,S,Γ,T,K=>step S Γ T fun e S' Γ T=>match e with
    | .nrm=>HN step n S' Γ T K
    | .ex i=>K (.ex i) S' Γ T
    | .ret=>K .ret S' Γ T
def nT:Code→St→(Γ:Prop)→Tr ρ Γ→(Ex→St→TK ρ)→Prop
  | .skip,S,Γ,T,K=>K .nrm S Γ T
  | .region id ai draw,S,Γ,T,K =>
    match draw with
    | false=>Ah C pl ai ai.toList S Γ (KV id T) fun S' Γ T=>BQ pl id S' Γ T fun S'' _ T=>Jf S'' (K .nrm) T
    | true=>match rt ord id with
      | some is=>bG (uc pl ai) (xH C.P (cy ai.toList) S fun S1=>tT C pl ai is none S1 Γ (KV id T) fun S' Γ T=>k8 (cy ai.toList) S' (BQ pl id S' Γ T fun S'' _ T=>Jf S'' (K .nrm) T))
      | none=>af 440
  | .seq a b,S,Γ,T,K=>nT a S Γ T fun e S' _ T=>match e with
    | .nrm=>DN (qt b + 4000000) T fun x Γ T=>match x with
      | some (some (W,L,e1,S1))=>Gb L (wk W S') fun S2=>cd b S2 (fun e' S3=>e'=e1∧S3=S1)∧K e1 S1 Γ T
      | _=>nT b S' Γ T K
    | .ex i=>K (.ex i) S' _ T
    | .ret=>K .ret S' _ T
  | .cond c x y,S,Γ,T,K=>ol c S fun b S'=>match b with
    | true=>nT x S' Γ T K
    | false=>nT y S' Γ T K
  | .block id c,S,Γ,T,K=>nT c S Γ T fun e S' Γ T=>match e with
    | .ex i=>match Nat.beq i id with | true=>K .nrm S' Γ T | false=>K (.ex i) S' Γ T
    | .nrm=>K .nrm S' Γ T
    | .ret=>K .ret S' Γ T
  | .loop c,S,_,T,K=>DN (qt c + 3000000) T fun x Γ T=>match x with
    | some (some (W,L,e,S1))=>Gb L (wk W S) fun S2=>(C.loop pl c S2 fun e' S'=>e'=e∧S'=S1)∧K e S1 Γ T
    | some none=>HN (nT c) 40 S Γ T K
    | none=>af 471
  | .exit id,S,Γ,T,K=>K (.ex id) S Γ T
  | .ret,S,Γ,T,K=>K .ret S Γ T
  | _,_,_,_,_=>af 119
def Io {σ τ:Type} (c:Code) (S:St) (r:σ⊕τ) (Sf:σ→St) (out:τ→Ex×St) (T:Tr (σ⊕τ) True):Prop :=
  nT C cd ord pl c S True T fun e S' _ T=>KH S' (fun S'' _ T=>match T with
    | .ret x=>match x with
      | .inl s=>match e with | .nrm=>.inl s=r∧S''=Sf s | _=>False
      | .inr t=>match e with | .nrm=>False | _=>.inr t=r∧(e,S'')=out t
    | _=>False) T
def Ip {σ τ:Type} (Sf:σ→St) (out:τ→Ex×St):σ⊕τ→Prop
  | .inl s=>Sf s=Sf s
  | .inr t=>out t=out t
def Jg (c:Code) (S:St) (r:ρ) (out:ρ→Ex×St) (T:Tr ρ True):Prop :=
  nT C cd ord pl c S True T fun e S' _ T=>KH S' (fun S'' _ T=>match T with
    | .ret x=>x=r∧(e,S'')=out x
    | _=>False) T
def DO (f:Nat) (args:List AV) (o:List Ob) (T:Tr ρ True) (K:AV→St→TK ρ):Prop :=
  match C.P.funcs[f]? with
  | some fn=>match fn.body with
    | some c=>nT C cd ord (C.pol f) c { t:=args++zD (fn.ntmps - args.length),l:=[],o:=o,b:=o.length } True T fun e S Γ T =>
        match e with
        | .ex _=>af 120
        | _=>xI C.P S fn.results.toList fun rs=>AG rs fun r=>K r S Γ T
    | none=>af 121
  | none=>af 122
def Iq (f:Nat) (args:List AV) (r:ρ) (enc:ρ→AV) (T:Tr ρ True):Prop :=
  DO C cd ord f args [] T fun a S _ T=>zy S.o a fun a=>match T with
    | .ret x=>x=r∧d8 a (enc x)
    | .rp x _ _=>x=r∧d8 a (enc x)
    | .rq x=>x=r∧leB 40 a (enc x)=true
    | _=>False
def Gx (f:Nat) (args:List AV) (o:List Ob) (r:ρ) (out:ρ→AV×List Ob) (T:Tr ρ True):Prop :=
  DO C cd ord f args o T fun a S _ T=>bG (uM 4 a&&Nat.beq S.b o.length) (match T with
    | .ret x=>x=r∧(a,S.o)=out x
    | _=>False)
end
theorem Fg {S:St} {d id len ext sz:Nat} {rows:List (List AV)} (hd:S.t[d]?=some (.msl id 0 len ext)) (ho:S.o[id]?=some (.arr true sz rows)) (hb:S.b≤id) :
    dK S { t:=(br id S).t.set d (.mf id),l:=(br id S).l,o:=(br id S).o.set id (.arr true sz (rows.take len)),b:=S.b }:=by
  intro G E a w hM ht
  have hid:id<S.o.length:=(List.getElem?_eq_some_iff.1 ho).1
  obtain ⟨hM1,ht1,_⟩:=nh hM ht hid
  have hgl:(br id S).o.length=S.o.length:=by simp [br]
  have hk:aS E.mu (.O id) (.O id)=none:=by unfold aS; rw [if_pos rfl]
  have hdl:d<a.tmps.size:=by rw [← ht.len]; exact (List.getElem?_eq_some_iff.1 hd).1
  have hu:a.tmps[d]?=some a.tmps[d]:=Array.getElem?_eq_getElem hdl
  generalize a.tmps[d]=u at hu
  have hv:=ht.val d _ u hd hu
  have hob:=hM.obj id
  rw [ho] at hob
  obtain ⟨mv,hmv,hval,hmu⟩:∃ mv:MV,fy ⟨E.F,aF (aS E.mu (.O id)) (.O id) mv,E.h⟩ (some (.arr true sz (rows.take len))) (some mv) ∧
      VR ⟨E.F,aF (aS E.mu (.O id)) (.O id) mv,E.h⟩ (.mf id) u∧(mv=.virt∨∃ b o s n n',mv=.blk b o s n∧E.mu (.O id)=some (.blk b o s n')):=by
    have hadd:∀ mv:MV,aF (aS E.mu (.O id)) (.O id) mv (.O id)=some mv:=fun mv=>by unfold aF; rw [if_pos rfl]
    cases hv with
    | msle off x hx =>
      refine ⟨.virt,rfl,?_,.inl rfl⟩
      cases x with
      | none=>exact .mfn (hadd _)
      | some x=>exact .mfe x (hadd _)
    | msl off len ext cap hx h1 h2 h3 =>
      rename_i b o s n
      rw [hx] at hob
      obtain ⟨⟨rfl,hn⟩,har⟩:=hob
      have hl:(rows.take len).length=len:=by rw [List.length_take]; omega
      refine ⟨.blk b o s len,⟨⟨rfl,hl.symm⟩,?_⟩,?_,.inr ⟨b,o,s,len,n,rfl,hx⟩⟩
      · obtain ⟨hs,hr,us,ty,hb,hle,hc⟩:=har
        refine ⟨hs,fun r h=>hr r (List.mem_of_mem_take h),us,ty,hb,?_,fun m c h=>hc m c ?_⟩
        · have:(rows.take len).length * s≤rows.length * s:=Nat.mul_le_mul_right _ (by rw [hl]; omega)
          omega
        · have hp:(rows.take len).flatten <+: rows.flatten:=by
            have:rows.flatten=(rows.take len).flatten++(rows.drop len).flatten:=by rw [← List.flatten_append,List.take_append_drop]
            rw [this]
            exact List.prefix_append _ _
          obtain ⟨z,hz⟩:=hp
          rw [← hz,List.getElem?_append_left (List.getElem?_eq_some_iff.1 h).1]
          exact h
      · have:=VR.mf (E:=⟨E.F,aF (aS E.mu (.O id)) (.O id) (.blk b o s len),E.h⟩) cap (hadd _) (by omega) (by simpa using h3)
        simpa using this
  have hle:LE ⟨E.F,aS E.mu (.O id),E.h⟩ ⟨E.F,aF (aS E.mu (.O id)) (.O id) mv,E.h⟩:=jV (E:=⟨E.F,aS E.mu (.O id),E.h⟩) hk
  refine ⟨⟨E.F,aF (aS E.mu (.O id)) (.O id) mv,E.h⟩,?_,?_⟩
  · refine hM1.addkey (key:=.O id) (mv:=mv) (fun _ h=>by cases h) hk (fun b o s n e=>?_) (fun _ _=>rfl) (fun i hi=>?_) rfl ?_ (fun i e=>?_) (fun _ h=>by cases h) (fun i e=>?_) ?_
    · rcases hmu with rfl | ⟨b',o',s',n1,n2,rfl,hx⟩
      · cases e
      · cases e
        obtain ⟨h1,h2,h3⟩:=hM.own _ _ _ _ _ hx
        refine ⟨h1,h2,h3,fun k o' s' n' h=>?_⟩
        obtain ⟨h4,h5⟩:=cH h
        exact h4 (hM.inj _ _ _ _ _ _ _ _ _ h5 hx)
    · show ((br id S).o.set id _)[i]?=(br id S).o[i]?
      rw [List.getElem?_set,if_neg (fun e=>hi (by rw [e]))]
    · show S.b≤((br id S).o.set id _).length
      have:=hM.bl
      rw [List.length_set,hgl]
      exact this
    · cases e
      exact hb
    · cases e
      show fy _ ((br id S).o.set id _)[id]? _
      rw [List.getElem?_set,if_pos rfl,if_pos (by rw [hgl]; exact hid)]
      exact hmv
    · intro j h
      rcases h with e | ⟨i,e⟩ <;> cases e
      show dJ _ id ((br id S).o.set id _)[id]?
      rw [List.getElem?_set,if_pos rfl,if_pos (by rw [hgl]; exact hid)]
      refine hM1.ow_new (mv:=mv) rfl ?_ rfl
      have:(br id S).o[id]?=some .dead:=by
        show ((S.o.map (dT (.O id))).set id .dead)[id]?=_
        rw [List.getElem?_set,if_pos rfl,if_pos (by simpa using hid)]
      rw [this]
      rfl
  · have ht2:=ht1.mono hle
    refine ⟨by simpa using ht2.len,fun n c v h1 h2=>?_,ht2.df,ht2.gt⟩
    have h1':((br id S).t.set d (.mf id))[n]?=some c:=h1
    rw [List.getElem?_set] at h1'
    split at h1'
    · rename_i e
      subst e
      split at h1'
      · cases h1'
        rw [hu] at h2
        cases h2
        exact hval
      · cases h1'
    · exact ht2.val n c v h1' h2
theorem f4:∀ (ds:List Nat) (S:St),dK S (qy ds S)
  | [],S=>.refl S
  | d::ds,S=>by
    unfold qy
    split
    · split
      · exact (fB [_] S).trans (f4 ds _)
      split
      · exact (zi _ S).trans (f4 ds _)
      · exact (fB [d] S).trans (f4 ds _)
    split
    · rename_i hd
      split
      · rename_i ho
        split
        · rename_i hb
          exact (Fg hd ho (Nat.le_of_ble_eq_true hb)).trans (f4 ds _)
        · exact f4 ds S
      · exact f4 ds S
    · exact f4 ds S
section
variable {ρ:Type}
theorem vq {k:Nat} {Γ:Prop} (T:Tr ρ Γ) {F:dG→TK ρ} (h:x9 k T F):∃ A Γ' T',F A Γ' T':=by
  induction T with
  | op j A r=>
    unfold x9 at h
    split at h <;> exact ⟨_,_,_,h⟩
  | ite j b t e iht ihe =>
    unfold x9 at h
    split at h
    · rcases h with ⟨_,h⟩ | ⟨_,h⟩
      · exact iht h
      · exact ihe h
    · exact ⟨_,_,_,h⟩
  | bind j m f ih =>
    unfold x9 at h
    split at h
    · obtain ⟨x,_,h⟩:=h
      exact ih x h
    · exact ⟨_,_,_,h⟩
  | alt j y f g ihf ihg =>
    unfold x9 at h
    split at h
    · rcases h with ⟨x,_,h⟩ | ⟨x,_,h⟩
      · exact ihf x h
      · exact ihg x h
    · exact ⟨_,_,_,h⟩
  | opt j y a f iha ihf =>
    unfold x9 at h
    split at h
    · rcases h with ⟨_,h⟩ | ⟨x,_,h⟩
      · exact iha h
      · exact ihf x h
    · exact ⟨_,_,_,h⟩
  | bad=>exact False.elim h
  | _=>exact ⟨_,_,_,h⟩
theorem DR {k:Nat} {Γ:Prop} (T:Tr ρ Γ) {F:Option (Option (Wk×Le×Ex×St))→TK ρ} (h:DN k T F):∃ x Γ' T',F x Γ' T':=by
  induction T with
  | lp j W L e S r =>
    unfold DN at h
    split at h <;> exact ⟨_,_,_,h⟩
  | un j r =>
    unfold DN at h
    split at h <;> exact ⟨_,_,_,h⟩
  | ite j b t e iht ihe =>
    unfold DN at h
    split at h
    · rcases h with ⟨_,h⟩ | ⟨_,h⟩
      · exact iht h
      · exact ihe h
    · exact ⟨_,_,_,h⟩
  | bind j m f ih =>
    unfold DN at h
    split at h
    · obtain ⟨x,_,h⟩:=h
      exact ih x h
    · exact ⟨_,_,_,h⟩
  | alt j y f g ihf ihg =>
    unfold DN at h
    split at h
    · rcases h with ⟨x,_,h⟩ | ⟨x,_,h⟩
      · exact ihf x h
      · exact ihg x h
    · exact ⟨_,_,_,h⟩
  | bad=>exact False.elim h
  | _=>exact ⟨_,_,_,h⟩
theorem DT {S:St} {K:St→TK ρ} {Γ:Prop} {T:Tr ρ Γ} (h:KH S K T):∃ S' Γ' T',dK S S'∧K S' Γ' T':=by
  unfold KH at h
  split at h
  · obtain ⟨S2,h1,h⟩:=l3 h
    exact ⟨S2,_,_,(pQ _ _).trans h1,h⟩
  · exact ⟨S,_,_,.refl S,h⟩
theorem DU {S:St} {K:St→TK ρ} {Γ:Prop} {T:Tr ρ Γ} (h:Jf S K T):∃ S' Γ' T',dK S S'∧K S' Γ' T':=by
  induction T with
  | wr ds L r =>
    obtain ⟨S2,h1,h⟩:=l3 h
    exact ⟨S2,_,_,(f4 ds S).trans h1,h⟩
  | ite j b t e iht ihe =>
    unfold Jf at h
    split at h
    · rcases h with ⟨_,h⟩ | ⟨_,h⟩
      · exact iht h
      · exact ihe h
    · exact ⟨S,_,_,.refl S,h⟩
  | bad=>exact False.elim h
  | _=>exact ⟨S,_,_,.refl S,h⟩
variable {C:Ctx} {cd:HI} {ord:List (Nat×PT)} {pl:bK}
theorem nF {G:Gh} (hO:xd C) (hC:d5 C) {rr:Option Nat} {all:Array Oper} {Q:Exit→Act→World→Prop}:∀ {ai:List Oper} {E:Env} {S:St} {w:World} {a:Act} {Γ:Prop} {T:Tr ρ Γ} {K:St→TK ρ},ah G pn E S w→TR E S.t a→Ah C pl all ai S Γ T K →
    (∀ S' Γ' T' E' a' w',K S' Γ' T'→ah G pn E' S' w'→TR E' S'.t a'→Q .normal a' w')→wpListIn (rd rr) 0 C.P all Q ai a w
  | [],E,S,w,a,Γ,T,K,hM,ht,h,hQ=>hQ _ _ _ _ _ _ h hM ht
  | o::rest,E,S,w,a,Γ,T,K,hM,ht,h,hQ=>by
    have step:∀ {S1:St},ah G pn E S1 w→TR E S1.t a→Region.wanted o (yielded all a.tmps)=true→(x9 (keyOf o) T fun A Γ T=>Il C A pl o S1 fun S'=>Ah C pl all rest S' Γ T K)→wpListIn (rd rr) 0 C.P all Q (o::rest) a w:=by
      intro S1 hM1 ht1 hw h
      obtain ⟨A,Γ',T',h⟩:=vq _ h
      unfold wpListIn
      rw [if_pos hw]
      refine yO (Cz (vm hO h)) (tc hC hM1 ht1 (vm hO h) _ _ (fun S' E' a' w' hk hS htr=>?_))
      exact nF hO hC hS htr hk hQ
    unfold Ah at h
    split at h
    · rename_i hg
      have hw:Region.wanted o (yielded all a.tmps)=true:=by unfold Region.wanted; rw [hg]
      unfold MB at h
      split at h
      · split at h
        · unfold wpListIn
          rw [if_pos hw]
          split at h
          · rename_i op t x yt ho
            split at h
            · rename_i e hu
              obtain ⟨c,h,hc⟩:=c_ h ht
              split at h
              · rename_i rows
                obtain ⟨hop,h1,h2⟩:=ac h
                obtain ⟨b,hrun,hbr⟩:=uH hop hu hc w x (.const (.slice none 0 0))
                have hex:(execOp a.eval o).run C.P w=.ok (.value (.bool b)) w:=by
                  have:(execOp a.eval o)=(do pure (.value (← (do eqGuard op t x (.const (.slice none 0 0)) (a.eval x) (.slice none 0 0); binOp op t (a.eval x) (.slice none 0 0):Sem Value)))):=by
                    unfold execOp
                    rw [ho]
                    simp [Act.eval]
                  rw [this,Sem.run_bind,hrun]
                  rfl
                refine yO (fun c hc=>by rw [ho] at hc; cases hc) (cT hex ?_)
                have h3:∃ Γ' T',bB o.dst (.v (.bool b)) S fun S'=>Ah C pl all rest S' Γ' T' K:=by
                  rcases hbr with ⟨rfl,hr⟩ | rfl
                  · exact ⟨_,_,h1 hr⟩
                  · exact ⟨_,_,h2⟩
                obtain ⟨Γ',T',h3⟩:=h3
                rw [aB] at h3
                exact nF hO hC (hM.congr cp cq cC) (ht.put (.v _ _ rfl)) h3 hQ
              · exact False.elim h
            · exact False.elim h
          · exact False.elim h
        · exact step hM ht hw h
      · exact step hM ht hw h
    · rename_i j want hg
      split at h
      · exact False.elim h
      · rename_i d hd
        obtain ⟨b,S1,h,hb,hM1,ht1⟩:=kD hM ht h
        rcases lV hg (nm hd hb) h with ⟨hw,h⟩ | ⟨hw,h⟩
        · exact step hM1 ht1 hw h
        · rw [aB] at h
          unfold wpListIn
          rw [if_neg (by rw [hw]; exact fun h=>by cases h)]
          exact ⟨fun _ _=>trivial,nF hO hC (hM1.congr cp cq cC) (ht1.put (rS _)) h hQ⟩
theorem DV (hC:xd C) {ai:Array Oper} {i:Nat} {S:St} {Γ:Prop} {T:Tr ρ Γ} {K:St→TK ρ} (h:JE C pl ai i S Γ T K):∃ S1 Γ1 T1,yv C pl ai i S (fun S'=>S'=S1)∧K S1 Γ1 T1:=by
  unfold JE at h
  unfold yv
  split at h
  · exact False.elim h
  · rename_i o ho
    rw [ho]
    dsimp only
    unfold tag at h
    unfold ag
    have key:∀ {S:St},bG (jk pl ai o S) (x9 (keyOf o) T fun A Γ T=>By C A pl o S fun S'=>K S' Γ T)→∃ S1 Γ1 T1,qG C pl ai o S (fun S'=>S'=S1)∧K S1 Γ1 T1:=by
      intro S h
      obtain ⟨h1,h⟩:=ac h
      obtain ⟨A,Γ',T',h⟩:=vq _ h
      obtain ⟨S1,h2,h3⟩:=g6 hC.det _ (xg hC h)
      exact ⟨S1,Γ',T',al h1 (h3 _ rfl),h2⟩
    split at h
    · rename_i hg
      rw [hg]
      exact key h
    · rename_i j want hg
      rw [hg]
      dsimp only
      split at h
      · exact False.elim h
      · rename_i d hd
        rw [hd]
        dsimp only
        obtain ⟨b,S1,h1,h2⟩:=dv _ h
        unfold gsel at h1
        have h3:∃ S2 Γ2 T2,gsel b want (qG C pl ai o S1 fun S'=>S'=S2) (bB o.dst (.tup []) S1 fun S'=>S'=S2)∧K S2 Γ2 T2:=by
          unfold gsel
          split at h1
          · exact key h1
          · exact key h1
          · rw [aB] at h1
            exact ⟨_,_,_,(aB).2 rfl,h1⟩
        obtain ⟨S2,Γ2,T2,h3,h4⟩:=h3
        exact ⟨S2,Γ2,T2,h2 (fun b S1=>gsel b want (qG C pl ai o S1 fun S'=>S'=S2) (bB o.dst (.tup []) S1 fun S'=>S'=S2)) h3,h4⟩
theorem Aj (hC:xd C) {ai:Array Oper} {ws:List Nat}:∀ {n a:Nat} {listed:Array Bool} {t:PT} {S:St} {Γ:Prop} {T:Tr ρ Γ} {K:St→TK ρ},ku pl ai ws n a listed=some t→tT C pl ai t none S Γ T K→∃ S1 Γ1 T1,jT C pl ai ws n listed S (fun S'=>S'=S1)∧K S1 Γ1 T1
  | 0,a,listed,t,S,Γ,T,K,hp,h=>by
    unfold ku at hp
    unfold jT
    split at hp
    · cases hp
      rename_i hr
      rw [hr]
      exact ⟨S,Γ,T,rfl,h⟩
    · cases hp
  | n + 1,a,listed,t,S,Γ,T,K,hp,h=>by
    unfold ku at hp
    unfold jT
    split at hp
    · cases hp
      rename_i hr
      rw [hr]
      exact ⟨S,Γ,T,rfl,h⟩
    · rename_i r rs hr
      rw [hr]
      dsimp only
      have step:∀ {k b:Nat} {u:PT} {S:St} {Γ:Prop} {T:Tr ρ Γ} {K:St→TK ρ},ku pl ai ws n b (listed.setIfInBounds k true)=some u→(JE C pl ai k S Γ T fun S' Γ T=>tT C pl ai u none S' Γ T K)→∃ S1 Γ1 T1,(yv C pl ai k S fun S'=>jT C pl ai ws n (listed.setIfInBounds k true) S' fun S''=>S''=S1)∧K S1 Γ1 T1:=by
        intro k b u S Γ T K hj h
        obtain ⟨S2,Γ2,T2,h1,h2⟩:=DV hC h
        obtain ⟨S3,Γ3,T3,h3,h4⟩:=Aj hC hj h2
        exact ⟨S3,Γ3,T3,aw.mono (fJ hC.det) h1 (fun S' e=>by rw [e]; exact h3),h4⟩
      have alts:∀ {b:Nat} {is:List Nat} {u:PT} {S S1:St} {Γ:Prop} {T:Tr ρ Γ} {K:St→TK ρ},qq (fun i=>ku pl ai ws n b (listed.setIfInBounds i true)) is=some u→tT C pl ai u (some S1) S Γ T K →
          (Ci (fun i K'=>yv C pl ai i S fun S'=>jT C pl ai ws n (listed.setIfInBounds i true) S' K') is S1 (S1=S1))∧∃ Γ1 T1,K S1 Γ1 T1:=by
        intro b is
        induction is with
        | nil =>
          intro u S S1 Γ T K hu h
          unfold qq at hu
          cases hu
          exact ⟨rfl,_,_,h⟩
        | cons i is ih =>
          intro u S S1 Γ T K hu h
          unfold qq at hu
          split at hu
          · rename_i v hv
            split at hu
            · rename_i w hw
              cases hu
              obtain ⟨S2,Γ2,T2,h1,h2,h3⟩:=step hv h
              subst h2
              obtain ⟨h4,h5⟩:=ih hw h3
              exact ⟨aw.mono (aw.bind (fJ hC.det) (fun S'=>fk hC.det _ _ _)) h1 (fun S' e=>BJ ⟨e,h4⟩),h5⟩
            · cases hu
          · cases hu
      split at hp
      · rename_i k hk
        rw [hk]
        dsimp only
        split at hp
        · cases hp
          rename_i u hj
          exact step hj h
        · cases hp
      · rename_i hk
        rw [hk]
        dsimp only
        split at hp
        · split at hp
          · cases hp
            rename_i u hj
            exact step hj h
          · cases hp
        · split at hp
          · rename_i b _ _
            unfold qq at hp
            split at hp
            · rename_i v hv
              split at hp
              · rename_i w hw
                cases hp
                obtain ⟨S1,Γ1,T1,h1,h2⟩:=step hv h
                obtain ⟨h3,Γ2,T2,h4⟩:=alts hw h2
                exact ⟨S1,Γ2,T2,aw.mono (aw.bind (fJ hC.det) (fun S'=>fk hC.det _ _ _)) h1 (fun S' e=>by subst e; exact h3),h4⟩
              · cases hp
            · cases hp
          · cases hp
theorem Gy (hC:xd C) {ai:Array Oper} {ws:List Nat}:∀ {n:Nat} {listed:Array Bool} {t:PT} {S:St} {Γ:Prop} {T:Tr ρ Γ} {K:St→TK ρ},zh pl ai ws n listed=some t→tT C pl ai t none S Γ T K→∃ S1 Γ1 T1,uO C pl ai ws n listed S (fun S'=>S'=S1)∧K S1 Γ1 T1
  | 0,listed,t,S,Γ,T,K,hp,h=>Aj hC (n:=0) hp h
  | n + 1,listed,t,S,Γ,T,K,hp,h=>by
    unfold zh at hp
    unfold uO
    split at hp
    · rename_i i hi
      rw [hi]
      dsimp only
      split at hp
      · cases hp
        rename_i u hj
        obtain ⟨S2,Γ2,T2,h1,h2⟩:=DV hC h
        obtain ⟨S3,Γ3,T3,h3,h4⟩:=Gy hC hj h2
        exact ⟨S3,Γ3,T3,aw.mono (fJ hC.det) h1 (fun S' e=>by rw [e]; exact h3),h4⟩
      · cases hp
    · rename_i hi
      rw [hi]
      exact Aj hC hp h
theorem Gz (hC:xd C) {ai:Array Oper} {t:PT} {S:St} {Γ:Prop} {T:Tr ρ Γ} {K:St→TK ρ} (hp:w7 pl ai=some t) (h:tT C pl ai t none S Γ T K):∃ S1 Γ1 T1,xG C pl ai S (fun S'=>S'=S1)∧K S1 Γ1 T1:=by
  unfold w7 at hp
  unfold xG
  split at hp
  · cases hp
  · rename_i hn
    split at hp
    · rename_i hc
      rw [hc]
      obtain ⟨S1,Γ1,T1,h1,h2⟩:=Aj hC hp h
      exact ⟨S1,Γ1,T1,al hn h1,h2⟩
    · rename_i hc
      rw [hc]
      obtain ⟨S1,Γ1,T1,h1,h2⟩:=Gy hC hp h
      exact ⟨S1,Γ1,T1,al hn h1,h2⟩
theorem uI:∀ {ids:List Nat} {S:St} {Γ:Prop} {T:Tr ρ Γ} {K:St→TK ρ},Ai ids S Γ T K→∃ S1 Γ1 T1,m9 ids S (fun S'=>S'=S1)∧K S1 Γ1 T1
  | [],S,Γ,T,_,h=>⟨S,Γ,T,rfl,h⟩
  | _::_,_,_,_,_,h=>by
    obtain ⟨A,Γ',T',h⟩:=vq _ h
    obtain ⟨S1,h1,h2⟩:=nv _ (qv h)
    obtain ⟨S2,Γ2,T2,h3,h4⟩:=uI h1
    exact ⟨S2,Γ2,T2,h2 _ h3,h4⟩
theorem sn:∀ {ids:List Nat} {S:St} {Γ:Prop} {T:Tr ρ Γ} {K:St→TK ρ},xk ids S Γ T K→∃ S1 Γ1 T1,kZ ids S (fun S'=>S'=S1)∧K S1 Γ1 T1
  | [],S,Γ,T,_,h=>⟨S,Γ,T,rfl,h⟩
  | _::_,_,_,_,_,h=>by
    obtain ⟨A,Γ',T',h⟩:=vq _ h
    obtain ⟨S1,h1,h2⟩:=oY _ (si h)
    obtain ⟨S2,Γ2,T2,h3,h4⟩:=sn h1
    exact ⟨S2,Γ2,T2,h2 _ h3,h4⟩
theorem zm {id:Nat} {S:St} {Γ:Prop} {T:Tr ρ Γ} {K:St→TK ρ} (h:BQ pl id S Γ T K):∃ S1 Γ1 T1,kp pl id S (fun S'=>S'=S1)∧K S1 Γ1 T1:=by
  unfold BQ at h
  unfold kp
  split at h
  · rename_i hc
    rw [hc]
    exact ⟨S,_,_,rfl,h⟩
  · rename_i hc
    rw [hc]
    dsimp only
    obtain ⟨S1,Γ1,T1,h1,h2⟩:=uI h
    split at h2
    · rename_i hf
      refine ⟨S1,Γ1,T1,aw.mono (jZ _ _) h1 (fun S' e=>?_),h2⟩
      rw [hf]
      exact e
    · rename_i hf
      obtain ⟨S2,Γ2,T2,h3,h4⟩:=sn h2
      refine ⟨S2,Γ2,T2,aw.mono (jZ _ _) h1 (fun S' e=>?_),h4⟩
      rw [hf,e]
      exact h3
def MX (G:Gh) (K:Ex→St→TK ρ) (Q:Exit→Act→World→Prop):Prop:=∀ e S' Γ' T' E' a' w',K e S' Γ' T'→ah G pn E' S' w'→TR E' S'.t a'→Q (Hu e) a' w'
theorem o9 {cfg:pZ} (hmix:cfg.P.follows .mixedOrders=true) {pl:bK}:∀ (c:Code) {S:St} {Γ:Prop} {T:Tr ρ Γ} {K:Ex→St→TK ρ},lr pl ord c=true→nT (i6 cfg) (ey cfg.P) ord pl c S Γ T K →
    ∀ (r:Option Nat) (G:Gh) (E:Env) (a:Act) (w:World) (Q:Exit→Act→World→Prop),ah G pn E S w→TR E S.t a→MX G K Q→c.wpIn (rd r) 0 cfg.P Q a w:=by
  have hC:=BK cfg
  intro c
  induction c with
  | skip=>exact fun _ h r G E a w Q hM ht hQ=>wpIn_skip (hQ .nrm _ _ _ E _ _ h hM ht)
  | region id ai draw =>
    intro S Γ T K hB h r G E a w Q hM ht hQ
    cases draw with
    | false =>
      refine wpIn_region_list (nF hC (kM cfg) hM ht h (fun S' Γ' T' E' a' w' hk hS htr=>?_))
      obtain ⟨S1,Γ1,T1,h1,h2⟩:=zm hk
      obtain ⟨S3,E3,rfl,hS,htr⟩:=lU hS htr h1
      obtain ⟨S2,Γ2,T2,hw,hk⟩:=DU h2
      obtain ⟨E2,hM2,ht2⟩:=hw G E3 a' w' hS htr
      exact hQ .nrm _ _ _ _ _ _ hk hM2 ht2
    | true =>
      unfold lr at hB
      have h':(match rt ord id with
      | some is=>bG (uc pl ai) (xH (i6 cfg).P (cy ai.toList) S fun S1=>tT (i6 cfg) pl ai is none S1 Γ (KV id T) fun S' Γ T=>k8 (cy ai.toList) S' (BQ pl id S' Γ T fun S'' _ T=>Jf S'' (K .nrm) T))
      | none=>af 440):=h
      split at hB
      · rename_i is js h1 h2
        rw [h1] at h'
        dsimp only at h'
        obtain ⟨h3,h'⟩:=ac h'
        obtain ⟨S1,h4,h5⟩:=wD _ h'
        rw [sj hB] at h4
        obtain ⟨S2,Γ2,T2,h6,h7⟩:=Gz hC h2 h4
        obtain ⟨h8,h9⟩:=mQ h7
        obtain ⟨S3,Γ3,T3,h10,h11⟩:=zm h8
        refine mT hmix pl id ai S (fun e S'=>e=.nrm∧S'=S3) ?_ r G E a w Q hM ht (fun e S' E' a' w' hk hS htr=>?_)
        · refine al h3 (h5 _ (aw.mono (wE hC.det) h6 (fun S' e=>?_)))
          subst e
          exact h9 _ (aw.mono pL h10 (fun S' e=>⟨rfl,e⟩))
        · obtain ⟨rfl,rfl⟩:=hk
          obtain ⟨S4,Γ4,T4,hw,hk⟩:=DU h11
          obtain ⟨E2,hM2,ht2⟩:=hw G E' a' w' hS htr
          exact hQ .nrm _ _ _ _ _ _ hk hM2 ht2
      · cases hB
  | seq x y ihx ihy =>
    intro S Γ T K hB h r G E a w Q hM ht hQ
    unfold lr at hB
    rw [Bool.and_eq_true] at hB
    refine wpIn_seq (ihx hB.1 h r G E a w _ hM ht (fun e S' Γ' T' E' a' w' hk hS htr=>?_))
    cases e with
    | nrm =>
      obtain ⟨x,Γ1,T1,hk⟩:=DR _ hk
      split at hk
      · obtain ⟨S2,h1,⟨e2,S3,h2,h3,h4⟩,h5⟩:=l3 hk
        subst h3 h4
        obtain ⟨E2,hM2,ht2⟩:=((pQ _ _).trans h1) G E' a' w' hS htr
        refine h2 r G E2 a' w' Q hM2 ht2 (fun e' S'' E'' a'' w'' he hS' ht'=>?_)
        obtain ⟨rfl,rfl⟩:=he
        exact hQ _ _ _ _ _ _ _ h5 hS' ht'
      · exact ihy hB.2 hk r G E' a' w' Q hS htr hQ
    | ex i=>exact hQ (.ex i) _ _ _ _ _ _ hk hS htr
    | ret=>exact hQ .ret _ _ _ _ _ _ hk hS htr
  | cond c x y ihx ihy =>
    intro S Γ T K hB h r G E a w Q hM ht hQ
    unfold lr at hB
    rw [Bool.and_eq_true] at hB
    obtain ⟨b,S1,h1,h2,h3,h4⟩:=oP hM ht h
    cases b with
    | true=>exact wpIn_cond_true h2 (ihx hB.1 h1 r G E a w Q h3 h4 hQ)
    | false=>exact wpIn_cond_false h2 (ihy hB.2 h1 r G E a w Q h3 h4 hQ)
  | block id c ih =>
    intro S Γ T K hB h r G E a w Q hM ht hQ
    refine wpIn_block (ih hB h r G E a w _ hM ht (fun e S' Γ' T' E' a' w' hk hS htr=>?_))
    cases e with
    | nrm=>exact hQ .nrm _ _ _ _ _ _ hk hS htr
    | ret=>exact hQ .ret _ _ _ _ _ _ hk hS htr
    | ex i =>
      show Exit.inBlock id Q (.exit i) a' w'
      unfold Exit.inBlock
      dsimp only at hk
      split at hk
      · rename_i hb
        have:=Nat.eq_of_beq_eq_true hb
        subst this
        simp only [if_pos]
        exact hQ .nrm _ _ _ _ _ _ hk hS htr
      · rename_i hb
        have hne:¬ i=id:=fun e=>by subst e; simp at hb
        simp only [if_neg hne]
        exact hQ (.ex i) _ _ _ _ _ _ hk hS htr
  | loop c ih =>
    intro S Γ T K hB h r G E a w Q hM ht hQ
    have h':(DN (qt c + 3000000) T fun x Γ T=>match x with
    | some (some (W,L,e,S1))=>Gb L (wk W S) fun S2=>((i6 cfg).loop pl c S2 fun e' S'=>e'=e∧S'=S1)∧K e S1 Γ T
    | some none=>HN (nT (i6 cfg) (ey cfg.P) ord pl c) 40 S Γ T K
    | none=>af 471):=h
    clear h
    obtain ⟨x,Γ1,T1,h⟩:=DR _ h'
    split at h
    · obtain ⟨S2,h1,h2,h3⟩:=l3 h
      obtain ⟨E2,hM2,ht2⟩:=((pQ _ _).trans h1) G E a w hM ht
      refine kN cfg pl c S2 _ h2 r G E2 a w Q hM2 ht2 (fun e' S'' E'' a'' w'' he hS' ht'=>?_)
      obtain ⟨rfl,rfl⟩:=he
      exact hQ _ _ _ _ _ _ _ h3 hS' ht'
    · have run:∀ (n:Nat) {S:St} {Γ:Prop} {T:Tr ρ Γ},HN (nT (i6 cfg) (ey cfg.P) ord pl c) n S Γ T K→∀ (E:Env) (a:Act) (w:World),ah G pn E S w→TR E S.t a→Code.roundsIn (rd r) 0 cfg.P c Q n a w:=by
        intro n
        induction n with
        | zero=>exact fun h=>False.elim h
        | succ n ihn =>
          intro S Γ T h E a w hM ht
          refine ih hB h r G E a w _ hM ht (fun e S' Γ' T' E' a' w' hk hS htr=>?_)
          cases e with
          | nrm=>exact ihn hk E' a' w' hS htr
          | ex i=>exact hQ (.ex i) _ _ _ _ _ _ hk hS htr
          | ret=>exact hQ .ret _ _ _ _ _ _ hk hS htr
      exact wpIn_loop_rounds 40 (run 40 h E a w hM ht)
    · exact False.elim h
  | exit id=>exact fun _ h r G E a w Q hM ht hQ=>wpIn_exit (hQ (.ex id) _ _ _ E _ _ h hM ht)
  | ret=>exact fun _ h r G E a w Q hM ht hQ=>wpIn_ret (hQ .ret _ _ _ E _ _ h hM ht)
  | _=>exact fun _ h=>False.elim h
theorem ey.ofT {cfg:pZ} (hmix:cfg.P.follows .mixedOrders=true) {pl:bK} {c:Code} {S:St} {out:ρ→Ex×St} {r:ρ} {T:Tr ρ True} (hB:lr pl ord c=true)
    (h:Jg (i6 cfg) (ey cfg.P) ord pl c S r out T):ey cfg.P c S fun e S'=>(e,S')=out r:=by
  refine ⟨(out r).1,(out r).2,fun r G E a w Q hM ht hQ=>?_,rfl⟩
  refine o9 hmix c hB h r G E a w Q hM ht (fun e' S' Γ' T' E' a' w' hk hS htr=>?_)
  obtain ⟨S2,Γ2,T2,hw,hk⟩:=DT hk
  obtain ⟨E2,hM2,ht2⟩:=hw G E' a' w' hS htr
  split at hk
  · obtain ⟨rfl,h2⟩:=hk
    rw [← h2] at hQ
    exact hQ _ _ _ _ _ ⟨rfl,rfl⟩ hM2 ht2
  · exact False.elim hk
theorem Fh {α β:Type} {out:α⊕β→Ex×St} (h:∀ a,(out (.inl a)).1≠.nrm) (k:∀ b,(out (.inr b)).1≠.nrm):∀ t,(out t).1≠.nrm
  | .inl a=>h a
  | .inr b=>k b
theorem ey.ofL {cfg:pZ} (hmix:cfg.P.follows .mixedOrders=true) {pl:bK} {c:Code} {S:St} {σ τ:Type} {Sf:σ→St} {out:τ→Ex×St} (hne:∀ t,(out t).1≠.nrm) {r:σ⊕τ} {T:Tr (σ⊕τ) True} (hB:lr pl ord c=true)
    (h:Io (i6 cfg) (ey cfg.P) ord pl c S r Sf out T):ey cfg.P c S (rk Sf out r):=by
  have key:∀ (q:Ex×St),(∀ s,r=.inl s→q=(.nrm,Sf s))→(∀ t,r=.inr t→q=out t)→∀ (r':Option Nat) (G:Gh) (E:Env) (a:Act) (w:World) (Q:Exit→Act→World→Prop),ah G pn E S w→TR E S.t a→FW G (fun e' S''=>e'=q.1∧S''=q.2) Q→c.wpIn (rd r') 0 cfg.P Q a w:=by
    intro q h1 h2 r' G E a w Q hM ht hQ
    refine o9 hmix c hB h r' G E a w Q hM ht (fun e' S' Γ' T' E' a' w' hk hS htr=>?_)
    obtain ⟨S2,Γ2,T2,hw,hk⟩:=DT hk
    obtain ⟨E2,hM2,ht2⟩:=hw G E' a' w' hS htr
    split at hk
    · split at hk
      · split at hk
        · obtain ⟨h3,rfl⟩:=hk
          have:=h1 _ h3.symm
          exact hQ .nrm _ _ _ _ ⟨by rw [this],by rw [this]⟩ hM2 ht2
        · exact False.elim hk
      · split at hk
        · exact False.elim hk
        · obtain ⟨h3,h4⟩:=hk
          have:=h2 _ h3.symm
          exact hQ _ _ _ _ _ ⟨by rw [this,← h4],by rw [this,← h4]⟩ hM2 ht2
    · exact False.elim hk
  cases r with
  | inl s=>exact ⟨.nrm,Sf s,key (.nrm,Sf s) (fun _ e=>by cases e; rfl) (fun _ e=>by cases e),MW⟩
  | inr t=>exact ⟨(out t).1,(out t).2,key (out t) (fun _ e=>by cases e) (fun _ e=>by cases e; rfl),hne t,rfl,rfl⟩
theorem uJ {cfg:pZ} (hN:lW cfg.P) (hmix:cfg.P.follows .mixedOrders=true) {f:Nat} {args:List AV} {o:List Ob} {T:Tr ρ True} {K:AV→St→TK ρ} (hB:lr (cfg.pol f) ord (bz cfg.P f)=true) (h:DO (i6 cfg) (ey cfg.P) ord f args o T K) :
    rI cfg.P f∧∀ (G:Gh) (E:Env) (w:World) (us:Array Value),ah G pn E (Hi o o.length) w→Ck E→cb E args us.toList→Calls cfg.P f us w fun e w'=>∃ v r S' E',(∃ Γ' T',K r S' Γ' T')∧e=.returned v∧ah G pn E' S' w'∧VR E' r v:=by
  unfold DO at h
  split at h
  · rename_i fn hf
    split at h
    · rename_i c hb
      have hb0:cfg.P.funcs[f]?=some fn:=hf
      refine ⟨⟨fn,c,hb0,hb,hN f fn hb0⟩,fun G E w us hM hg hv=>?_⟩
      refine wm.1 (callsIn_of_wp (F:=rd none) (n:=0) hb0 hb trivial ?_)
      have hl:args.length=us.size:=by simpa using hv.1
      unfold bz at hB
      rw [hb0] at hB
      dsimp only at hB
      rw [hb] at hB
      refine o9 hmix c hB h none G E _ w _ (hM.congr rfl rfl rfl) ⟨?_,fun n c' u h1 h2=>?_,rfl,hg⟩ (fun e S' Γ' T' E' a' w' hk hS htr=>?_)
      · simp [wo,hl]
      · dsimp only at h1 h2
        by_cases hn:n<args.length
        · rw [List.getElem?_append_left hn] at h1
          rw [Array.getElem?_append_left (by omega)] at h2
          exact hv.2 n c' u h1 (by simpa using h2)
        · rw [List.getElem?_append_right (by omega)] at h1
          rw [wn h1]
          exact .bad _ _
      · cases e with
        | ex i=>exact False.elim hk
        | nrm =>
          obtain ⟨r,u,hk',hr,hrun⟩:=jJ (k:=fun r=>K r S' Γ' T') hS htr hk
          exact ⟨htr.df,u,hrun,u,r,S',E',⟨_,_,hk'⟩,rfl,hS,hr⟩
        | ret =>
          obtain ⟨r,u,hk',hr,hrun⟩:=jJ (k:=fun r=>K r S' Γ' T') hS htr hk
          exact ⟨htr.df,u,hrun,u,r,S',E',⟨_,_,hk'⟩,rfl,hS,hr⟩
    · exact False.elim h
  · exact False.elim h
theorem d_.ofT {cfg:pZ} (hN:lW cfg.P) (hmix:cfg.P.follows .mixedOrders=true) {f:Nat} {args:List AV} {r:ρ} {enc:ρ→AV} {T:Tr ρ True} (hB:lr (cfg.pol f) ord (bz cfg.P f)=true) (h:Iq (i6 cfg) (ey cfg.P) ord f args r enc T):d_ cfg.P f args (fun x=>x=enc r):=by
  obtain ⟨h1,h2⟩:=uJ hN hmix hB h
  refine ⟨enc r,⟨h1,fun F w us hF hg hv=>?_⟩,rfl⟩
  have hM:ah { w0:=w,M:=fun _=>False,F:=F,mu:=fun _=>none } pn ⟨F,fun _=>none,w.heap⟩ (Hi [] 0) w :=
    ⟨rfl,rfl,rfl,rfl,Nat.le_refl _,fun _ _ _=>rfl,fun _ h=>h,hF,fun _ h _=>.inl h,fun _ _ _ _ _ h=>(by cases h),fun _ _ _ _ _ _ _ _ _ h _=>(by cases h),fun _=>rfl,fun _=>trivial,fun _ h=>(by cases h),Nat.le_refl _,fun _ _=>rfl,fun _ _ h=>(by cases h),fun _ _=>rfl⟩
  refine (h2 _ _ w us hM hg hv).mono ?_
  rintro e w' ⟨v,c,S',E',⟨Γ',T',hk⟩,rfl,hS,hr⟩
  unfold zy at hk
  split at hk
  · rename_i b hb
    rw [b9] at hk
    have hd:=gq hS _ hb hr (ids:=dq S'.o 6 c) (fun i hi=>hi)
    have hle:d8 b (enc r):=by
      split at hk
      · obtain ⟨rfl,h3⟩:=hk
        exact h3
      · obtain ⟨rfl,h3⟩:=hk
        exact h3
      · obtain ⟨rfl,h3⟩:=hk
        exact xj _ _ _ h3
      · exact False.elim hk
    refine ⟨v,FD E' (dq S'.o 6 c),rfl,?_,⟨hS.os,hS.tape,hS.output,hS.size,fun b' hb'=>hS.keep b' hb' (fun h=>h)⟩,fun b' h=>.inl (hS.F0 b' h),FM hS,fun b' h hlt=>?_⟩
    · have e:(⟨FD E' (dq S'.o 6 c),fun _=>none,w'.heap⟩:Env)=E'.fd (dq S'.o 6 c):=by
        unfold Env.fd
        rw [hS.hp]
      rw [e]
      exact hle _ _ hd
    · rcases h with h | ⟨id,_,o',s,n,h⟩
      · rcases hS.Fnew b' h hlt with h3 | h3
        · exact h3
        · exact h3.elim
      · rcases (hS.own _ _ _ _ _ h).2.2 with h3 | h3
        · exact h3.elim
        · have h3:w.heap.size≤b':=h3
          omega
  · exact False.elim hk
theorem SD.ofT {cfg:pZ} (hN:lW cfg.P) (hmix:cfg.P.follows .mixedOrders=true) {f:Nat} {args:List AV} {o:List Ob} {r:ρ} {out:ρ→AV×List Ob} {T:Tr ρ True} (hB:lr (cfg.pol f) ord (bz cfg.P f)=true) (h:Gx (i6 cfg) (ey cfg.P) ord f args o r out T):SD cfg.P f args o (fun r' o'=>r'=(out r).1∧o'=(out r).2):=by
  obtain ⟨h1,h2⟩:=uJ hN hmix hB h
  refine ⟨(out r).1,(out r).2,⟨h1,fun E w us hM hg hv=>(h2 _ E w us hM hg hv).mono ?_⟩,rfl,rfl⟩
  rintro e w' ⟨v,c,S',E',⟨Γ',T',hk⟩,rfl,hS,hr⟩
  obtain ⟨hb,hk⟩:=ac hk
  split at hk
  · obtain ⟨rfl,h5⟩:=hk
    rw [← h5]
    simp only [Bool.and_eq_true] at hb
    have:=hS.obj_only
    rw [Nat.eq_of_beq_eq_true hb.2] at this
    exact ⟨v,c,S'.o,E'.ob,⟨rfl,rfl⟩,rfl,this,lc 4 hb.1 hr⟩
  · exact False.elim hk
end
abbrev vA (k:Nat) (v:AV):dG:=⟨[],[],[],[(k,v)],[],[],[],[],[]⟩
abbrev rA (k:Nat) (x:List AV):dG:=⟨[],[],[(k,x)],[],[],[],[],[],[]⟩
abbrev cA (k:Nat) (v:AV):dG:=⟨[],[],[],[],[(k,v)],[],[],[],[]⟩
abbrev hA (k:Nat):dG:=⟨[],[k],[],[],[],[],[],[],[]⟩
abbrev nA (k:Nat) (x:xX):dG:=⟨[],[],[],[],[],[],[],[],[(k,x)]⟩
abbrev mA (k:Nat) (x:List (AV×AV)):dG:=⟨[],[],[],[],[],[],[],[(k,x)],[]⟩
abbrev oA (k i:Nat) (x:List (List AV)):dG:=⟨[],[],[],[],[],[],[(k,(i,x))],[],[]⟩
abbrev rv (k:Nat) (v w:AV):dG:=⟨[],[],[],[(k,w)],[(k,v)],[],[],[],[]⟩
abbrev gT (k:Nat) (v:AV):dG:=⟨[],[k],[],[(k,v)],[],[],[],[],[]⟩
abbrev nG (k i:Nat) (x:List (List AV)):dG:=⟨[],[k],[],[],[],[],[(k,(i,x))],[],[]⟩
abbrev sH (k:Nat) (r:List AV) (i:Nat) (x:List (List AV)):dG:=⟨[],[],[(k,r)],[],[],[],[(k,(i,x))],[],[]⟩
abbrev sA (k:Nat) (v:AV×List Ob):dG:=⟨[],[],[],[],[],[(k,v)],[],[],[]⟩
abbrev wK (a b:List Nat) (c:Nat):Wk:=⟨a,b,c,[],[],[]⟩
abbrev l0:Le:=⟨[],[],[]⟩
theorem cB {a b:Bool} (h:a=b):AV.v (.bool a)=AV.v (.bool b):=congrArg JU h
theorem eS {α:Type} {m:Option α} {x y:α} (h:m=some x) (k:x=y):m=some y:=k▸h
theorem eR {α β:Type} {y:α⊕β} {x z:β} (h:y=.inr x) (k:x=z):y=.inr z:=k▸h
abbrev cP (P:Program) {ρ:Type} (m:Option ρ) (f:Nat) (as:List AV) (enc:ρ→AV):Prop:=∀ r,m=some r→d_ P f as (fun x=>x=enc r)
abbrev cS (P:Program) {ρ:Type} (m:Option ρ) (f:Nat) (as:List AV) (o:List Ob) (R:ρ→AV×List Ob):Prop:=∀ y,m=some y→SD P f as o (fun r' o'=>r'=(R y).1∧o'=(R y).2)
theorem iv {α β:Type} {f:α→β} {l:List α} (h:dU l=true):dU (l.map f)=true:=by
  cases l with
  | nil=>cases h
  | cons _ _=>rfl
theorem KW {h m:Int} (k:(!(h==0))=true):(d9 (some m)&&d9 (some h))=false:=by
  have:d9 (some h)=false:=by
    unfold d9
    split
    · rename_i e
      cases e
      simp at k
    · rfl
  rw [this,Bool.and_false]
theorem xl {i o h:Nat} {m:Int} (e:m.toNat=h):AV.msl i o h (m.toNat - h)=AV.msl i o h 0:=by
  rw [e,Nat.sub_self]
theorem DW {α:Type} (f:α→List AV) (e:List α) (a n:Nat) (z:α) {zr:List AV} (hz:f z=zr):(e.map f).take a++(List.replicate n zr++(e.map f).drop (a + n))=(e.take a++(List.replicate n z++e.drop (a + n))).map f:=by
  subst hz
  simp [List.map_take,List.map_drop]
theorem vr {α:Type} (f:α→List AV) (l:List α) (n:Nat):j1 ((l.map f).take n) ((l.take n).map f):=by
  rw [List.map_take]
  exact .refl _
theorem Jh {α:Type} {f:α→List AV} {cs:List (Option (List α))} {i j:Nat} (h:(Nat.beq i j&&Nat.blt j cs.length)=true):(Nat.beq i j&&Nat.blt j (cs.map (bH f)).length)=true:=by
  rw [List.length_map]
  exact h
section
variable {ρ:Type} {Γ:Prop}
def tB (k:Nat) (b:Bool) (t:Tr ρ (Γ∧b=true)) (e:Tr ρ (Γ∧b=false)):Tr ρ Γ :=
  .ite k b (.op k (vA k (.v (.bool true))) (.o (AV.v (.bool b)=AV.v (.bool true)) (fun g=>cB g.2) t)) (.op k (vA k (.v (.bool false))) (.o (AV.v (.bool b)=AV.v (.bool false)) (fun g=>cB g.2) e))
def tG (k:Nat) (b:Bool) (t:Tr ρ (Γ∧b=true)):Tr ρ Γ:=.ite k b t .bad
def tL (k:Nat) {α:Type} (f:α→List AV) (l:List α) (r:Tr ρ Γ):Tr ρ Γ :=
  .op k (vA k (.v (.int .i64 (l.length:Int)))) (.o (AV.v (.int .i64 (((l.map f).length:Nat):Int))=AV.v (.int .i64 (l.length:Int))) (fun _=>HK f l) r)
def tI (k:Nat) {α:Type} (f:α→List AV) (l:List α) (i:Int) (r:(x:α)→Tr ρ (Γ∧az l i=some x)):Tr ρ Γ :=
  .bind k (az l i) fun x=>.op k (rA k (f x)) (.o (Ig (l.map f) i=some (f x)) (fun g=>Gt f g.2) (r x))
def tM (k:Nat) {α:Type} (f:α→List AV) {l:List α} {i:Int} {x:α} (h:Γ→az l i=some x) (r:Tr ρ Γ):Tr ρ Γ :=
  .op k (rA k (f x)) (.o (Ig (l.map f) i=some (f x)) (fun g=>Gt f (h g)) r)
def tN (k:Nat) {α:Type} (f:α→List AV) {l:List α} {i:Int} {x:α} (h:Γ→az l i=some x) (r:Tr ρ Γ):Tr ρ Γ :=
  .op k (rA k (f x)) (.o ((l.map f)[i.toNat]?=some (f x)) (fun g=>b4 f (h g)) r)
def tC (k:Nat) {α:Type} {m:Option α} {P:Program} {f:Nat} {as:List AV} {enc:α→AV} (h:cP P m f as enc) (r:(y:α)→Tr ρ (Γ∧m=some y)):Tr ρ Γ :=
  .bind k m fun y=>.op k (cA k (enc y)) (.o (d_ P f as (fun x=>x=enc y)) (fun g=>h y g.2) (r y))
def tS (k:Nat) {α:Type} {m:Option α} {P:Program} {f:Nat} {as:List AV} {o:List Ob} {R:α→AV×List Ob} (h:cS P m f as o R) (r:(y:α)→Tr ρ (Γ∧m=some y)):Tr ρ Γ :=
  .bind k m fun y=>.op k (sA k (R y)) (.o (SD P f as o (fun r' o'=>r'=(R y).1∧o'=(R y).2)) (fun g=>h y g.2) (r y))
def tW (S:St) (f:St→Tr ρ Γ):Tr ρ Γ:=f S
def tF (f:Tr ρ Γ→Tr ρ Γ) (g:(Tr ρ Γ→Tr ρ Γ)→Tr ρ Γ):Tr ρ Γ:=g f
def tZ (S:St) (r:Tr ρ Γ):Tr ρ Γ:=.o (S=S) (fun _=>rfl) r
end
end A
end Go.Proofs.Ytaiokpalfdbnnaa
