/- How long an event's text is -/
import Derived.Test.YtnmmknnnggcijaaDoorG1
namespace Go.Proofs.YtnmmknnnggcijaaDoor
open Go A

theorem EK {s:ByteArray} {i:Int} {β:Type} {f:Int→Option β} {P:β→Prop} (h0:0≤i) (h1:i<(s.size:Int)) (h:∀ x,T (f x) P):T ((ae s i).bind f) P:=by
  obtain ⟨k,rfl⟩:∃ k:Nat,i=(k:Int):=⟨i.toNat,by omega⟩
  unfold ae
  rw [if_pos h0,Int.toNat_natCast,getElem?_pos s k (by omega)]
  exact h _
theorem gJ {u B:Int} (h:0≤u∧u<16 * B):0≤ab .u64 u 4∧ab .u64 u 4<B:=by
  have e:ab .u64 u 4=u / 16:=by
    unfold ab
    show u.fdiv (2 ^ (min 4 64))=_
    rw [show (2:Int) ^ (min 4 64)=16 by decide,Int.fdiv_eq_ediv_of_nonneg _ (by decide)]
  rw [e]
  omega
theorem Fe {x:Int} (hx:U x):0≤aj .u64 x 15∧aj .u64 x 15<16:=by
  unfold U at hx
  obtain ⟨k,rfl⟩:∃ k:Nat,x=(k:Int):=⟨x.toNat,by omega⟩
  have e:aj .u64 (k:Int) 15=((k &&& 15:Nat):Int):=by
    unfold aj
    show IntKind.wrap .u64 ((BitVec.ofInt 64 (k:Int) &&& BitVec.ofInt 64 ((15:Nat):Int)).toNat:Int)=_
    have:=Nat.and_le_right (n:=k) (m:=15)
    rw [BitVec.toNat_and,m3 (by omega),m3 (by decide),IntKind.wrap_u64]
    omega
  have:=Nat.and_le_right (n:=k) (m:=15)
  rw [e]
  omega
def Ff:ByteArray:=ByteArray.mk #[48,49,50,51,52,53,54,55,56,57,97,98,99,100,101,102,103,104,105,106,107,108,109,110,111,112,113,114,115,116,117,118,119,120,121,122]
theorem bn {u B:Int} (hu:0≤u∧u<16 * B) (hB:B≤1152921504606846976) {β:Type} {f g:Int→Option β} {P:β→Prop} (hf:∀ x,T (f x) P) (hg:∀ x,T (g x) P) :
    T (if (decide (u≥16))=true then (ae Ff (aj .u64 u 15)).bind f else (ae Ff u).bind g) P:=by
  have hs:(Ff.size:Int)=36:=by decide
  have h15:=Fe (x:=u) ⟨hu.1,by omega⟩
  refine T.ite (fun _=>EK h15.1 (by omega) hf) (fun h=>EK hu.1 ?_ hg)
  rw [decide_eq_false_iff_not] at h
  omega
theorem AM {u:Int} (hu:0≤u∧u<16) {β:Type} {x:Option β} {g:Int→Option β} {P:β→Prop} (hg:∀ x,T (g x) P):T (if (decide (u≥16))=true then x else (ae Ff u).bind g) P:=by
  have hs:(Ff.size:Int)=36:=by decide
  refine T.ite (fun h=>?_) (fun _=>EK hu.1 (by omega) hg)
  rw [decide_eq_true_eq] at h
  omega
theorem FU (n:Nat) {u:Int} (hu:U u):T (ge n u) (fun s=>1≤s.size∧s.size≤16):=by
  have h0:0≤u∧u<16 * 1152921504606846976:=by unfold U at hu; omega
  have h1:=gJ (B:=16 * 72057594037927936) h0
  have h2:=gJ (B:=16 * 4503599627370496) h1
  have h3:=gJ (B:=16 * 281474976710656) h2
  have h4:=gJ (B:=16 * 17592186044416) h3
  have h5:=gJ (B:=16 * 1099511627776) h4
  have h6:=gJ (B:=16 * 68719476736) h5
  have h7:=gJ (B:=16 * 4294967296) h6
  have h8:=gJ (B:=16 * 268435456) h7
  have h9:=gJ (B:=16 * 16777216) h8
  have h10:=gJ (B:=16 * 1048576) h9
  have h11:=gJ (B:=16 * 65536) h10
  have h12:=gJ (B:=16 * 4096) h11
  have h13:=gJ (B:=16 * 256) h12
  have h14:=gJ (B:=16 * 16) h13
  have h15:=gJ (B:=16) h14
  have fin:∀ l:List Int,1≤l.length→l.length≤16→T (some (aV l)) (fun s=>1≤s.size∧s.size≤16):=fun l a b=>T.ret (by rw [u9]; exact ⟨a,b⟩)
  have:T (cL n u) (fun s=>1≤s.size∧s.size≤16):=by
    refine bn h0 (by decide) (fun _=>?_) (fun _=>fin _ (by simp) (by simp))
    refine bn h1 (by decide) (fun _=>?_) (fun _=>fin _ (by simp) (by simp))
    refine bn h2 (by decide) (fun _=>?_) (fun _=>fin _ (by simp) (by simp))
    refine bn h3 (by decide) (fun _=>?_) (fun _=>fin _ (by simp) (by simp))
    refine bn h4 (by decide) (fun _=>?_) (fun _=>fin _ (by simp) (by simp))
    refine bn h5 (by decide) (fun _=>?_) (fun _=>fin _ (by simp) (by simp))
    refine bn h6 (by decide) (fun _=>?_) (fun _=>fin _ (by simp) (by simp))
    refine bn h7 (by decide) (fun _=>?_) (fun _=>fin _ (by simp) (by simp))
    refine bn h8 (by decide) (fun _=>?_) (fun _=>fin _ (by simp) (by simp))
    refine bn h9 (by decide) (fun _=>?_) (fun _=>fin _ (by simp) (by simp))
    refine bn h10 (by decide) (fun _=>?_) (fun _=>fin _ (by simp) (by simp))
    refine bn h11 (by decide) (fun _=>?_) (fun _=>fin _ (by simp) (by simp))
    refine bn h12 (by decide) (fun _=>?_) (fun _=>fin _ (by simp) (by simp))
    refine bn h13 (by decide) (fun _=>?_) (fun _=>fin _ (by simp) (by simp))
    refine bn h14 (by decide) (fun _=>?_) (fun _=>fin _ (by simp) (by simp))
    exact AM h15 (fun _=>fin _ (by simp) (by simp))
  have h2:T (dk n u) (fun s=>1≤s.size∧s.size≤16):=this.bind (fun s hs=>T.ret hs)
  exact h2.bind (fun s hs=>T.ret hs)
/-- Digits behind what is there. -/
def Mo (l:List Int) (m:Nat) (r:List Int):Prop:=l.length + 1≤r.length∧r.length≤l.length + m
theorem FV (f:Nat→Int→List Int→Option (ByteArray×List Int)) (n:Nat) {u:Int} (l:List Int) (hf:T (f n u l) (fun r=>Mo l 16 r.2)):T ((f n u l).bind fun y1=>some y1.2) (Mo l 16):=hf.bind (fun _ hr=>T.ret hr)
theorem jf {l k:List Int} (hl:l.length≤1000) (hk:1≤k.length∧k.length≤16) {m:Nat} (hm:m=k.length):T (grd (Nat.ble ((l.length + m) * 1) 140737488355328) (some (ByteArray.mk #[],l++k))) (fun r=>Mo l 16 r.2):=by
  subst hm
  refine T.grd (Nat.ble_eq_true_of_le (by omega)) (T.ret ?_)
  unfold Mo
  rw [List.length_append]
  omega
theorem EL (n:Nat) {u:Int} (hu:U u) (l:List Int) (hl:l.length≤1000):T (bD n u l) (Mo l 16):=by
  have h0:0≤u∧u<16 * 1152921504606846976:=by unfold U at hu; omega
  have h1:=gJ (B:=16 * 72057594037927936) h0
  have h2:=gJ (B:=16 * 4503599627370496) h1
  have h3:=gJ (B:=16 * 281474976710656) h2
  have h4:=gJ (B:=16 * 17592186044416) h3
  have h5:=gJ (B:=16 * 1099511627776) h4
  have h6:=gJ (B:=16 * 68719476736) h5
  have h7:=gJ (B:=16 * 4294967296) h6
  have h8:=gJ (B:=16 * 268435456) h7
  have h9:=gJ (B:=16 * 16777216) h8
  have h10:=gJ (B:=16 * 1048576) h9
  have h11:=gJ (B:=16 * 65536) h10
  have h12:=gJ (B:=16 * 4096) h11
  have h13:=gJ (B:=16 * 256) h12
  have h14:=gJ (B:=16 * 16) h13
  have h15:=gJ (B:=16) h14
  have:T (bJ n u l) (fun r=>Mo l 16 r.2):=by
    refine bn h0 (by decide) (fun _=>?_) (fun _=>jf hl (by simp) rfl)
    refine bn h1 (by decide) (fun _=>?_) (fun _=>jf hl (by simp) rfl)
    refine bn h2 (by decide) (fun _=>?_) (fun _=>jf hl (by simp) rfl)
    refine bn h3 (by decide) (fun _=>?_) (fun _=>jf hl (by simp) rfl)
    refine bn h4 (by decide) (fun _=>?_) (fun _=>jf hl (by simp) rfl)
    refine bn h5 (by decide) (fun _=>?_) (fun _=>jf hl (by simp) rfl)
    refine bn h6 (by decide) (fun _=>?_) (fun _=>jf hl (by simp) rfl)
    refine bn h7 (by decide) (fun _=>?_) (fun _=>jf hl (by simp) rfl)
    refine bn h8 (by decide) (fun _=>?_) (fun _=>jf hl (by simp) rfl)
    refine bn h9 (by decide) (fun _=>?_) (fun _=>jf hl (by simp) rfl)
    refine bn h10 (by decide) (fun _=>?_) (fun _=>jf hl (by simp) rfl)
    refine bn h11 (by decide) (fun _=>?_) (fun _=>jf hl (by simp) rfl)
    refine bn h12 (by decide) (fun _=>?_) (fun _=>jf hl (by simp) rfl)
    refine bn h13 (by decide) (fun _=>?_) (fun _=>jf hl (by simp) rfl)
    refine bn h14 (by decide) (fun _=>?_) (fun _=>jf hl (by simp) rfl)
    exact AM h15 (fun _=>jf hl (by simp) rfl)
  have h2:T (cu n u l) (Mo l 16):=FV bJ n l this
  exact h2.bind (fun r hr=>T.ret hr)
theorem Fg (n:Nat) {u:Int} (hu:U u) (l:List Int) (hl:l.length≤1000):T (cr n u l) (Mo l 16):=by
  have e1:∀ m v k,cr m v k=bD m v k:=fun _ _ _=>rfl
  rw [e1]
  exact EL n hu l hl

/-! ### Decimal numbers up to a thousand -/
theorem CR (n:Nat) {i:Int} (h:0≤i∧i<100):T (internal_strconv_small n i) (fun s=>1≤s.size∧s.size≤2):=by
  obtain ⟨k,rfl⟩:∃ k:Nat,i=(k:Int):=⟨i.toNat,by omega⟩
  unfold internal_strconv_small
  have e1:av .i64 (k:Int) 1=((k + 1:Nat):Int):=by rw [xt (by omega) (by omega)]; omega
  have e2:a_ .i64 (k:Int) 2=((2 * k:Nat):Int):=by rw [Fy (by omega) (by omega)]; omega
  have e3:av .i64 ((2 * k:Nat):Int) 2=((2 * k + 2:Nat):Int):=by rw [xt (by omega) (by omega)]; omega
  rw [e1,e2,e3]
  refine T.ite (fun h1=>?_) (fun h1=>?_)
  · rw [decide_eq_true_eq] at h1
    have hs:∀ s:ByteArray,s.size=36→T (grd (decide ((0:Int)≤(k:Int))&&decide ((k:Int)≤((k + 1:Nat):Int))&&decide (((k + 1:Nat):Int)≤(s.size:Int))) (some (s.extract ((k:Int)).toNat (((k + 1:Nat):Int)).toNat))) (fun s=>1≤s.size∧s.size≤2):=fun s hs=>by
      refine T.grd (by rw [hs]; simp; omega) (T.ret ?_)
      rw [ByteArray.size_extract,hs,Int.toNat_natCast,Int.toNat_natCast]
      omega
    exact hs _ (by decide)
  · have hs:∀ s:ByteArray,s.size=200→T (grd (decide ((0:Int)≤((2 * k:Nat):Int))&&decide (((2 * k:Nat):Int)≤((2 * k + 2:Nat):Int))&&decide (((2 * k + 2:Nat):Int)≤(s.size:Int))) (some (s.extract (((2 * k:Nat):Int)).toNat (((2 * k + 2:Nat):Int)).toNat))) (fun s=>1≤s.size∧s.size≤2):=fun s hs=>by
      refine T.grd (by rw [hs]; simp; omega) (T.ret ?_)
      rw [ByteArray.size_extract,hs,Int.toNat_natCast,Int.toNat_natCast]
      omega
    exact hs _ (by decide +kernel)
def DZ (k:Nat):Bool:=Nat.blt k 100||((internal_strconv_numDigits 0 (k:Int)==some 3&&(bC 0 (k:Int) [] 0 0 0 0 0 0 0 0 0 0 0 0 0 0 0 0 0 0 0 0 0 0 0 0).isSome)||(internal_strconv_numDigits 0 (k:Int)==some 4&&(br 0 (k:Int) [] 0 0 0 0 0 0 0 0 0 0 0 0 0 0 0 0 0 0 0 0 0 0 0 0).isSome))
theorem EM:(List.range 1001).all DZ=true:=by kernel_rfl
theorem FW (n:Nat) {k:Nat} (hk:k≤1000) (l:List Int) (hl:l.length≤1000):T (bk n (k:Int) l) (Mo l 16):=by
  have h:=List.all_eq_true.1 EM k (List.mem_range.2 (by omega))
  unfold bk
  refine T.ite (fun h1=>?_) (fun h1=>?_)
  · rw [decide_eq_true_eq] at h1
    have e:IntKind.wrap .i64 (k:Int)=(k:Int):=Dv (by omega) (by omega)
    rw [e]
    refine (CR n (by omega)).bind (fun s hs=>?_)
    have:=o9 s
    refine T.grd (Nat.ble_eq_true_of_le (by omega)) (T.ret ?_)
    unfold Mo
    rw [List.length_append]
    omega
  · rw [decide_eq_false_iff_not] at h1
    unfold DZ at h
    have e:Nat.blt k 100=false:=by rw [← Bool.not_eq_true,Nat.blt_eq]; omega
    rw [e,Bool.false_or,Bool.or_eq_true,Bool.and_eq_true,Bool.and_eq_true,beq_iff_eq,beq_iff_eq] at h
    have nd:internal_strconv_numDigits n (k:Int)=internal_strconv_numDigits 0 (k:Int):=rfl
    rcases h with ⟨h2,h3⟩ | ⟨h2,h3⟩
    · obtain ⟨r,hr⟩:=Option.isSome_iff_exists.1 h3
      have e3:bC n (k:Int) l 0 0 0 0 0 0 0 0 0 0 0 0 0 0 0 0 0 0 0 0 0 0 0 0=some r:=hr
      refine T.eqb (nd.trans h2) (T.ite (fun _=>T.eqb e3 (T.grd (Nat.ble_eq_true_of_le (by omega)) (T.ret ?_))) (fun h=>by cases h))
      unfold Mo
      rw [List.length_append]
      simp
    · obtain ⟨r,hr⟩:=Option.isSome_iff_exists.1 h3
      have e3:br n (k:Int) l 0 0 0 0 0 0 0 0 0 0 0 0 0 0 0 0 0 0 0 0 0 0 0 0=some r:=hr
      refine T.eqb (nd.trans h2) (T.ite (fun h=>by cases h) (fun _=>T.ite (fun _=>T.eqb e3 (T.grd (Nat.ble_eq_true_of_le (by omega)) (T.ret ?_))) (fun h=>by cases h)))
      unfold Mo
      rw [List.length_append]
      simp

end Go.Proofs.YtnmmknnnggcijaaDoor
