/- Steps whose registers are renamed -/
import Derived.Test.YteafbimadlcljaaDoorA8
namespace Go.Proofs.YteafbimadlcljaaDoor
open Go A

/-! ### What is read, exactly -/
theorem EB (n:Nat) (a b:Int):T ((bi n a b).bind fun y3=>(aC n y3.1 y3.2).bind fun y4=>match y4 with
      | .inl wa5=>(bJ n y3.1 wa5).bind fun _=>some ([y3.1]:List Int)
      | .inr _=>(bC n y3.1 y3.2).bind fun _=>some ([y3.1,y3.2]:List Int)) (fun l=>∀ x,x∈l↔x=a∨x=b):=by
  refine (zR n a b).bind (fun y h=>?_)
  unfold aC
  split
  · rename_i e
    have e:y.2=y.1:=by simpa using e
    refine T.ret (fun x=>?_)
    rw [List.mem_singleton]
    rcases h with rfl | rfl <;> simp only at e ⊢ <;> omega
  · refine T.ret (fun x=>?_)
    rw [List.mem_cons,List.mem_singleton]
    rcases h with rfl | rfl
    · exact Iff.rfl
    · exact Or.comm
theorem DX (n:Nat) (a b c:Int):T (bp n a b c) (fun y=>∀ r,(r=y.1∨r=y.2.1∨r=y.2.2)↔(r=a∨r=b∨r=c)):=by
  unfold bp cf bD gi fa
  simp only [Option.bind_some,Fi]
  repeat' split
  all_goals exact T.ret (fun r=>by first | (simp only; done) | (simp only; omega))
theorem DY (n:Nat) (a b c:Int):T ((bp n a b c).bind fun y3=>(bn n y3.1 y3.2.1 y3.2.2).bind fun y4=>match y4 with
           | .inl wa5=>(dq n y3.1 wa5.1 wa5.2).bind fun _=>some ([y3.1,wa5.1]:List Int)
           | .inr (.inl wb5)=>(dr n y3.1 wb5.1 wb5.2).bind fun _=>some ([y3.1]:List Int)
           | .inr (.inr _)=>(du n y3.1 y3.2.1 y3.2.2).bind fun _=>some ([y3.1,y3.2.1,y3.2.2]:List Int)) (fun l=>∀ x,x∈l↔x=a∨x=b∨x=c):=by
  refine (DX n a b c).bind (fun y h=>?_)
  obtain ⟨y1,y2,y3⟩:=y
  simp only at h ⊢
  unfold bn
  by_cases e1:y2=y1
  · by_cases e2:y3=y2
    · rw [if_pos (by simpa using e1),if_neg (by simpa using e2)]
      exact T.ret (fun x=>by rw [← h x,List.mem_singleton]; omega)
    · rw [if_pos (by simpa using e1),if_pos (by simpa using e2)]
      exact T.ret (fun x=>by rw [← h x,List.mem_cons,List.mem_singleton]; simp only; omega)
  · by_cases e2:y3=y2
    · rw [if_neg (by simpa using e1),if_pos (by simpa using e2)]
      exact T.ret (fun x=>by rw [← h x,List.mem_cons,List.mem_singleton]; simp only; omega)
    · rw [if_neg (by simpa using e1),if_neg (by simpa using e2)]
      exact T.ret (fun x=>by rw [← h x,List.mem_cons,List.mem_cons,List.mem_singleton])
theorem DZ (n:Nat) (s:ab):T (dy n s) (fun l=>∀ x,x∈l↔x∈gg s):=by
  unfold dy
  rw [oZ,Option.bind_some]
  rcases aj s.Op with h | h | h | h | h | h | h | h | h | h | h
  case inr.inr.inr.inr.inr.inr.inr.inr.inr.inr =>
    have e:b7 s.Op=0:=by unfold b7; repeat (rw [if_neg (by omega)])
    rw [e]
    refine T.ret (fun x=>?_)
    unfold gg
    rw [if_neg (by omega),if_neg (by omega),if_neg (by omega)]
  case inr.inr.inl=>rw [h]; exact (EB n s.B s.C_).imp (fun l hl x=>by rw [hl]; simp [gg,h])
  case inr.inr.inr.inr.inl=>rw [h]; exact (EB n s.B s.C_).imp (fun l hl x=>by rw [hl]; simp [gg,h])
  case inr.inr.inr.inr.inr.inl=>rw [h]; exact (DY n s.B s.C_ s.D).imp (fun l hl x=>by rw [hl]; simp [gg,h])
  all_goals rw [h]; exact T.ret (fun x=>by simp [gg,h])
def hB (op:Int):Bool:=op==2||op==3||op==4||op==5||op==6||op==9||op==10
def hC (op:Int):Bool:=op==3||op==5||op==6
def hD (op:Int):Bool:=op==6
theorem mJ (s:ab) (x:Int):x∈yN s↔(hB s.Op=true∧x=s.B)∨(hC s.Op=true∧x=s.C_)∨(hD s.Op=true∧x=s.D):=by
  obtain ⟨l,e,h⟩:=DZ 0 s
  rw [o5] at e
  cases e
  rw [h x]
  rcases aj s.Op with h | h | h | h | h | h | h | h | h | h | h
  case inr.inr.inr.inr.inr.inr.inr.inr.inr.inr =>
    unfold gg hB hC hD
    rw [if_neg (by omega),if_neg (by omega),if_neg (by omega)]
    simp
    omega
  all_goals simp [gg,hB,hC,hD,h]

/-! ### Renamed -/
def b8 (f:Int→Int) (s:ab):ab:=ab.mk s.Op (if nC s.Op=true then f s.A_ else s.A_) (if hB s.Op=true then f s.B else s.B) (if hC s.Op=true then f s.C_ else s.C_) (if hD s.Op=true then f s.D else s.D) s.Imm s.Bin s.To s.Shared
structure Ren (R:Nat) (f g:Int→Int):Prop where
  fr:∀ r:Int,0≤r→r<(R:Int)→0≤f r∧f r<(R:Int)
  gr:∀ r:Int,0≤r→r<(R:Int)→0≤g r∧g r<(R:Int)
  gf:∀ r:Int,0≤r→r<(R:Int)→g (f r)=r
  fg:∀ r:Int,0≤r→r<(R:Int)→f (g r)=r
theorem Ren.symm {R:Nat} {f g:Int→Int} (h:Ren R f g):Ren R g f:=⟨h.gr,h.fr,h.fg,h.gf⟩
theorem Ren.inj {R:Nat} {f g:Int→Int} (h:Ren R f g) {a b:Int} (ha:0≤a∧a<(R:Int)) (hb:0≤b∧b<(R:Int)):f a=f b↔a=b:=by
  constructor
  · intro e
    have:=congrArg g e
    rwa [h.gf a ha.1 ha.2,h.gf b hb.1 hb.2] at this
  · intro e
    rw [e]
theorem Fz (f:Int→Int) (s:ab):rv (b8 f s)=if nC s.Op=true then (f s.A_,true) else (0,false):=by
  unfold rv b8
  dsimp only
  split <;> rfl
theorem m2 {s:ab} {R:Int}:r5 s R↔(nC s.Op=true→0≤s.A_∧s.A_<R)∧(hB s.Op=true→0≤s.B∧s.B<R)∧(hC s.Op=true→0≤s.C_∧s.C_<R)∧(hD s.Op=true→0≤s.D∧s.D<R):=by
  unfold r5 rv
  constructor
  · rintro ⟨h1,h2⟩
    refine ⟨fun h=>?_,fun h=>h1 _ ((mJ s _).2 (.inl ⟨h,rfl⟩)),fun h=>h1 _ ((mJ s _).2 (.inr (.inl ⟨h,rfl⟩))),fun h=>h1 _ ((mJ s _).2 (.inr (.inr ⟨h,rfl⟩)))⟩
    rw [if_pos h] at h2
    exact h2 rfl
  · rintro ⟨h1,h2,h3,h4⟩
    refine ⟨fun r hr=>?_,fun h=>?_⟩
    · rcases (mJ s r).1 hr with ⟨h,rfl⟩ | ⟨h,rfl⟩ | ⟨h,rfl⟩
      · exact h2 h
      · exact h3 h
      · exact h4 h
    · split at h
      · rename_i hw
        rw [if_pos hw]
        exact h1 hw
      · cases h
theorem AH {R:Nat} {f g:Int→Int} (hf:Ren R f g) {s:ab} (h:r5 s R):r5 (b8 f s) R:=by
  rw [m2] at h ⊢
  obtain ⟨h1,h2,h3,h4⟩:=h
  refine ⟨fun h=>?_,fun h=>?_,fun h=>?_,fun h=>?_⟩
  · show 0≤(if nC s.Op=true then f s.A_ else s.A_)∧_
    have h:nC s.Op=true:=h
    rw [if_pos h]
    exact ⟨(hf.fr _ (h1 h).1 (h1 h).2).1,by show (if nC s.Op=true then f s.A_ else s.A_)<_; rw [if_pos h]; exact (hf.fr _ (h1 h).1 (h1 h).2).2⟩
  · have h:hB s.Op=true:=h
    show 0≤(if hB s.Op=true then f s.B else s.B)∧(if hB s.Op=true then f s.B else s.B)<_
    rw [if_pos h]
    exact hf.fr _ (h2 h).1 (h2 h).2
  · have h:hC s.Op=true:=h
    show 0≤(if hC s.Op=true then f s.C_ else s.C_)∧(if hC s.Op=true then f s.C_ else s.C_)<_
    rw [if_pos h]
    exact hf.fr _ (h3 h).1 (h3 h).2
  · have h:hD s.Op=true:=h
    show 0≤(if hD s.Op=true then f s.D else s.D)∧(if hD s.Op=true then f s.D else s.D)<_
    rw [if_pos h]
    exact hf.fr _ (h4 h).1 (h4 h).2
theorem C3 {R:Nat} {f g:Int→Int} (hf:Ren R f g) {s:ab} (h:r5 s R):b8 g (b8 f s)=s:=by
  rw [m2] at h
  obtain ⟨h1,h2,h3,h4⟩:=h
  obtain ⟨op,a,b,c,d,imm,bin,to,sh⟩:=s
  unfold b8
  dsimp only at h1 h2 h3 h4 ⊢
  have e:∀ (q:Bool) (x:Int),(q=true→0≤x∧x<(R:Int))→(if q=true then g (if q=true then f x else x) else (if q=true then f x else x))=x:=fun q x hx=>by
    cases q with
    | false=>rfl
    | true=>exact hf.gf x (hx rfl).1 (hx rfl).2
  rw [e _ _ h1,e _ _ h2,e _ _ h3,e _ _ h4]
theorem C4 {R:Nat} {f g:Int→Int} (hf:Ren R f g) {s:ab} (h:r5 s R) {r:Int} (hr:0≤r∧r<(R:Int)):f r∈yN (b8 f s)↔r∈yN s:=by
  rw [m2] at h
  obtain ⟨_,h2,h3,h4⟩:=h
  rw [mJ,mJ]
  have e:∀ (q:Bool) (x:Int),(q=true→0≤x∧x<(R:Int))→((q=true∧f r=(if q=true then f x else x))↔(q=true∧r=x)):=fun q x hx=>by
    cases q with
    | false=>simp
    | true =>
      rw [if_pos rfl,hf.inj hr (hx rfl)]
  show (hB s.Op=true∧f r=(if hB s.Op=true then f s.B else s.B))∨(hC s.Op=true∧f r=(if hC s.Op=true then f s.C_ else s.C_))∨(hD s.Op=true∧f r=(if hD s.Op=true then f s.D else s.D))↔_
  rw [e _ _ h2,e _ _ h3,e _ _ h4]
/-- It writes the register. -/
def C5 (s:ab) (r:Int):Prop:=(rv s).2=true∧(rv s).1=r
theorem AI {R:Nat} {f g:Int→Int} (hf:Ren R f g) {s:ab} (h:r5 s R) {r:Int} (hr:0≤r∧r<(R:Int)):C5 (b8 f s) (f r)↔C5 s r:=by
  rw [m2] at h
  unfold C5
  rw [Fz]
  unfold rv
  split
  · rename_i hw
    show true=true∧f s.A_=f r↔true=true∧s.A_=r
    rw [hf.inj (h.1 hw) hr]
  · simp

/-- The code, renamed. -/
def iA (f:Int→Int) (c:bh):bh:=bh.mk c.Regs (c.Steps.map (b8 f))
theorem C6 {α β:Type} (f:α→β) (l:List α) (i:Int):aH (l.map f) i=(aH l i).map f:=by
  unfold aH
  split
  · rw [List.getElem?_map]
  · rfl
theorem C7 (f:Int→Int) (c:bh) (k:Nat):xd (iA f c) k=xd c k:=by
  unfold xd ev iA
  dsimp only
  rw [List.length_map,C6]
  cases aH c.Steps (k:Int) <;> rfl
def zT (c:bh) (R:Nat):Prop:=∀ k (h:k<c.Steps.length),r5 c.Steps[k] (R:Int)
theorem qa {c:bh} {R k:Nat} {s:ab} (h:zT c R) (hs:c.Steps[k]?=some s):r5 s R:=by
  obtain ⟨h1,h2⟩:=List.getElem?_eq_some_iff.1 hs
  rw [← h2]
  exact h k h1
theorem xl {R:Nat} {f g:Int→Int} (hf:Ren R f g) {c:bh} (h:zT c R):zT (iA f c) R:=fun k hk=>by
  have hk':k<(c.Steps.map (b8 f)).length:=hk
  show r5 (c.Steps.map (b8 f))[k] R
  rw [List.getElem_map]
  exact AH hf (h k (by rwa [List.length_map] at hk'))
theorem v1 {R:Nat} {f g:Int→Int} (hf:Ren R f g) {c:bh} (h:zT c R):iA g (iA f c)=c:=by
  obtain ⟨regs,steps⟩:=c
  unfold iA
  dsimp only
  congr 1
  rw [List.map_map]
  conv=>rhs; rw [← List.map_id steps]
  apply List.map_congr_left
  intro s hs
  obtain ⟨k,hk,rfl⟩:=List.getElem_of_mem hs
  exact C3 hf (h k hk)
theorem C8 {R:Nat} {f g:Int→Int} (hf:Ren R f g) {c:bh} (h:zT c R) {r k:Nat} (hr:r<R) (hl:LR c r k) {q:Nat} (hq:(q:Int)=f (r:Int)):LR (iA f c) q k:=by
  have hrr:0≤(r:Int)∧(r:Int)<(R:Int):=by omega
  have get:∀ {k:Nat} {s:ab},c.Steps[k]?=some s→(iA f c).Steps[k]?=some (b8 f s):=fun {k s} hs=>by
    show (c.Steps.map (b8 f))[k]?=_
    rw [List.getElem?_map,hs]
    rfl
  induction hl with
  | here hs h1=>exact .here (get hs) (by rw [hq]; exact (C4 hf (qa h hs) hrr).2 h1)
  | next hs hw hj _ ih =>
    refine .next (get hs) (fun hx=>hw ?_) (by rw [C7]; exact hj) ih
    exact (AI hf (qa h hs) hrr).1 (by unfold C5; rw [← hq]; exact hx)
theorem FA {R:Nat} {f g:Int→Int} (hf:Ren R f g) {c:bh} (h:zT c R) {r q k:Nat} (hr:r<R) (hq:(q:Int)=f (r:Int)):LR (iA f c) q k↔LR c r k:=by
  have hrr:=hf.fr r (by omega) (by omega)
  refine ⟨fun hl=>?_,fun hl=>C8 hf h hr hl hq⟩
  have:=C8 hf.symm (xl hf h) (by omega) hl (q:=r) (by rw [hq]; exact (hf.gf r (by omega) (by omega)).symm)
  rwa [v1 hf h] at this
/-- What is live is what a way leads to. -/
theorem LI.way {c:bh} {R:Nat} {bs:List W} (h:LI c R bs []) {r k:Nat} (hr:r<R):gb bs k r↔LR c r k:=by
  refine ⟨h.lr k r hr,fun hl=>?_⟩
  induction hl with
  | here hs h1=>exact h.dn _ _ hs (fun h=>by cases h) r hr (.inl h1)
  | next hs hw hj _ ih=>exact h.dn _ _ hs (fun h=>by cases h) r hr (.inr ⟨⟨_,hj,ih⟩,hw⟩)

end Go.Proofs.YteafbimadlcljaaDoor
