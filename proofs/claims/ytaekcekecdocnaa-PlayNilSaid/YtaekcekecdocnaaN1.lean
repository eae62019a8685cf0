/- PlayNil: the statement's function answers true, for every call. Plain Lean, no program in sight. -/
import Derived.Test.YtaekcekecdocnaaM1
namespace Go.Proofs.Ytaekcekecdocnaa
open Go A

theorem add1 (i:Nat) (h:i<1000000):p_ .i64 (i:Int) 1=((i + 1:Nat):Int):=by
  rw [zy (by omega) (by omega)]
  omega

theorem zh (n:Nat) (l:List Int) (hl:l.length<n) (hb:l.length<1000000):b0 n l l=some true:=by
  unfold b0
  rw [if_neg (by simp)]
  obtain ⟨t,h1,h2⟩:=iG (step:=fun s=>bL n l l s) (fun s=>∃ i:Nat,s=(i:Int)∧i≤l.length) (fun s=>l.length - s.toNat) (fun t=>t=.inl ()) (fun s hs=>by
    obtain ⟨i,rfl,hi⟩:=hs
    show (∃ s',bL n l l (i:Int)=_∧_)∨∃ t,bL n l l (i:Int)=_∧_
    unfold bL
    by_cases h:i<l.length
    · left
      rw [if_pos (by simp; omega),q8,List.getElem?_eq_getElem h,Option.bind_some,Option.bind_some,if_neg (by simp),add1 i (by omega)]
      exact ⟨_,rfl,⟨i + 1,rfl,h⟩,by omega⟩
    · right
      rw [if_neg (by simp; omega)]
      exact ⟨_,rfl,rfl⟩) n 0 ⟨0,rfl,by omega⟩ (by simpa using hl)
  rw [h1,h2]
  rfl

/-- Picks by turns. -/
def cR (h:Int) (s:Nat):List Int:=(List.range s).map fun i=>((i:Nat):Int).tmod h
theorem fE (h:Int) (s:Nat):(cR h s).length=s:=by simp [cR]
theorem lV (h:Int) (s:Nat):cR h (s + 1)=cR h s++[(s:Int).tmod h]:=by
  unfold cR
  rw [List.range_succ,List.map_append]
  rfl

theorem zM (n:Nat) (h:Int) (s:Nat) (hh:1≤h) (hs:s<n) (hb:s≤65536) :
    iter (fun x=>bZ n h (s:Int) x) n (([]:List Int),0)=some (cR h s):=by
  obtain ⟨t,h1,h2⟩:=iG (step:=fun x=>bZ n h (s:Int) x) (fun x=>∃ i:Nat,x=(cR h i,(i:Int))∧i≤s) (fun x=>s - x.2.toNat) (fun t=>t=cR h s) (fun x hx=>by
    obtain ⟨i,rfl,hi⟩:=hx
    show (∃ s',bZ n h (s:Int) (cR h i,(i:Int))=_∧_)∨∃ t,bZ n h (s:Int) (cR h i,(i:Int))=_∧_
    unfold bZ
    dsimp only
    by_cases hi':i<s
    · left
      rw [if_pos (by simp; omega),mh (by simp; omega),mh (by rw [fE]; exact Nat.ble_eq_true_of_le (by omega)),add1 i (by omega)]
      refine ⟨_,rfl,⟨i + 1,?_,hi'⟩,by simp; omega⟩
      rw [lV]
      rfl
    · right
      rw [if_neg (by simp; omega)]
      have:i=s:=by omega
      rw [this]
      exact ⟨_,rfl,rfl⟩) n ([],0) ⟨0,rfl,by omega⟩ (by simpa using hs)
  rw [h1,h2]

theorem zi (n:Nat) (h:Int) (s:Nat) (hh:1≤h) (hs:s<n) (hb:s≤65536) :
    iter (fun x=>bS n h (s:Int) x) n (List.replicate ((s:Int)).toNat (0:Int),0)=some (cR h s):=by
  obtain ⟨t,h1,h2⟩:=iG (step:=fun x=>bS n h (s:Int) x) (fun x=>∃ i:Nat,x=(cR h i++List.replicate (s - i) (0:Int),(i:Int))∧i≤s) (fun x=>s - x.2.toNat) (fun t=>t=cR h s) (fun x hx=>by
    obtain ⟨i,rfl,hi⟩:=hx
    show (∃ s',bS n h (s:Int) (cR h i++List.replicate (s - i) (0:Int),(i:Int))=_∧_)∨∃ t,bS n h (s:Int) (cR h i++List.replicate (s - i) (0:Int),(i:Int))=_∧_
    unfold bS
    dsimp only
    by_cases hi':i<s
    · left
      have hlen:i<(cR h i++List.replicate (s - i) (0:Int)).length:=by rw [List.length_append,fE,List.length_replicate]; omega
      rw [if_pos (by simp; omega),mh (by simp; omega),q8,List.getElem?_eq_getElem hlen,Option.bind_some,add1 i (by omega)]
      refine ⟨_,rfl,⟨i + 1,?_,hi'⟩,by simp; omega⟩
      rw [lV,Int.toNat_natCast]
      obtain ⟨k,hk⟩:∃ k,s - i=k + 1:=⟨s - i - 1,by omega⟩
      rw [hk,List.replicate_succ,List.set_append_right _ _ (by rw [fE]; exact Nat.le_refl _),fE,Nat.sub_self,List.set_cons_zero,List.append_assoc,show s - (i + 1)=k from by omega]
      rfl
    · right
      rw [if_neg (by simp; omega)]
      have:i=s:=by omega
      rw [this,Nat.sub_self]
      exact ⟨_,rfl,by simp⟩) n (List.replicate ((s:Int)).toNat (0:Int),0) ⟨0,by simp [cR],by omega⟩ (by simpa using hs)
  rw [h1,h2]

theorem yH (n:Nat) (h s:Int) (hn:4096<n) (hs:s≤4096∨65536<s):∃ l,cJ n h s=some l∧dy n h s=some l∧l.length≤4096:=by
  unfold cJ dy
  by_cases h1:h<1
  · have e:decide (h<1)=true:=by simpa using h1
    rw [if_pos e,if_pos e]
    exact ⟨[],rfl,rfl,by simp⟩
  have e1:¬ decide (h<1)=true:=by simpa using h1
  rw [if_neg e1,if_neg e1]
  by_cases h2:s<1
  · have e:decide (s<1)=true:=by simpa using h2
    rw [if_pos e,if_pos e]
    exact ⟨[],rfl,rfl,by simp⟩
  have e2:¬ decide (s<1)=true:=by simpa using h2
  rw [if_neg e2,if_neg e2]
  by_cases h3:s>65536
  · have e:decide (s>65536)=true:=by simpa using h3
    rw [if_pos e,if_pos e]
    exact ⟨[],rfl,rfl,by simp⟩
  have e3:¬ decide (s>65536)=true:=by simpa using h3
  rw [if_neg e3,if_neg e3]
  obtain ⟨k,rfl⟩:∃ k:Nat,s=(k:Int):=⟨s.toNat,by omega⟩
  rw [mh (by simp; omega),zi n h k (by omega) (by omega) (by omega),zM n h k (by omega) (by omega) (by omega)]
  exact ⟨_,rfl,rfl,by rw [fE]; omega⟩

theorem vz (n:Nat) (h s:Int) (hn:4096<n) (hs:s≤4096∨65536<s):((cJ n h s).bind fun y=>(dy n h s).bind fun z=>(b0 n y z).bind fun b=>some b)=some true:=by
  obtain ⟨l,h1,h2,h3⟩:=yH n h s hn hs
  rw [h1,Option.bind_some,h2,Option.bind_some,zh n l (by omega) (by omega)]
  rfl

theorem xD (n:Nat) (hn:4096<n) (hart reg addr steps:Int):fH n hart reg addr steps=some true:=by
  have e1:∀ s:Int,(s≤4096∨65536<s)→((cJ n hart s).bind fun y=>(dy n hart s).bind fun z=>(b0 n y z).bind fun b=>some b)=some true:=fun s hs=>vz n hart s hn hs
  unfold fH kI eV eW fU eX eY dH de ca cb bo a8
  simp only [Option.bind_some]
  by_cases h1:steps>4096
  · by_cases h2:steps≤65536
    · simp [h1,h2]
      simpa using e1 4096 (by omega)
    · simp [h1,h2]
      simpa using e1 steps (by omega)
  · simp [h1]
    simpa using e1 steps (by omega)
theorem wQ (hart reg addr steps:Int):fH 70000 hart reg addr steps=some true:=xD 70000 (by decide) hart reg addr steps

end Go.Proofs.Ytaekcekecdocnaa
