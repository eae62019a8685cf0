/- A loop over a map of uint64s that asks whether all its values are zero: what it comes to, in every order. -/
import Derived.Test.YtcckeabholabcaaMR
namespace Go.Proofs.Ytcckeabholabcaa
namespace A
open Go
open Go.ChangeMaps (setBlock)

/-- An operation that nothing guards. -/
abbrev xY (d:Option Tmp) (op:Op) (ty:TypeId) (p:String) (af:Array Edge):Oper:={ dst:=d,op:=op,type:=ty,pos:=p,after:=af,guard:=none }
def F6 (mt kt bt T0 M R:Nat) (r1 r2 r3 r4 r5 r6 b1 b2 V:Nat) (p1 p2 p3 p4:String) (a2 a4 a6 a7 a9:Array Edge):Code :=
  .seq (.seq (.region r1 #[xY (some T0) (.move (.tmp M)) mt p1 #[],xY (some (T0 + 1)) (.range mt (.tmp T0)) 0 p1 a2] false)
    (.block b1 (.loop (.seq (.region r2 #[xY (some (T0 + 2)) (.next (.tmp (T0 + 1)) false) 0 p1 #[],xY (some (T0 + 3)) (.extract (.tmp (T0 + 2)) 0) bt p1 a4] false)
      (.seq (.cond (.tmp (T0 + 3)) .skip (.exit b1)) (.block b2 (.seq (.region r3 #[xY (some (T0 + 4)) (.entry (.tmp (T0 + 1))) 0 p1 #[],xY (some (T0 + 5)) (.extract (.tmp (T0 + 4)) 1) kt p1 a6,xY (some V) (.assign (.tmp (T0 + 5))) kt p1 a7] false)
        (.seq (.region r4 #[xY (some (T0 + 6)) (.move (.tmp V)) kt p2 #[],xY (some (T0 + 7)) (.binOp .neq kt (.tmp (T0 + 6)) (.const (.int .u64 0)) kt) bt p2 a9] false)
          (.cond (.tmp (T0 + 7)) (.seq (.region r5 #[xY (some R) (.assign (.const (.bool false))) bt p3 #[]] false) .ret) .skip)))))))))
    (.seq (.region r6 #[xY (some R) (.assign (.const (.bool true))) bt p4 #[]] false) .ret)

theorem Fq {P:Program} (t:TypeId) (x:Int) (X Y:Operand) (w:World) :
    (do eqGuard .neq t X Y (.int .u64 x) (.int .u64 0); binOp .neq t (.int .u64 x) (.int .u64 0):Sem Value).run P w=.ok (.bool (x != 0)) w:=by
  rw [gE rfl]
  rfl

section
variable {mt kt bt T0 M R r1 r2 r3 r4 r5 r6 b1 b2 V:Nat} {p1 p2 p3 p4:String} {a2 a4 a6 a7 a9:Array Edge} {P:Program}
/-- One round and all behind it. -/
theorem rn {rr:Option Nat} {G:Gh} {S1:St} {b r clock:Nat} {ms:Array MapEntry} {m:List (Int×Int)} (hlen:m.length=ms.size) (hval:∀ (i:Nat) (x:Int×Int) (e:MapEntry),m[i]?=some x→ms[i]?=some e→e.val=.int .u64 x.2)
    (hb:∀ j:Nat,(j=V∨T0≤j∧j<T0 + 8)→S1.t[j]?=some .bad) (hV:V<T0) (hRT:R<T0) (hRV:R≠V) {Q:Exit→Act→World→Prop}
    (hyes:(∀ x∈m,x.2=0)→∀ (E:Env) (a:Act) (w:World),ah G pn E S1 w→TR E S1.t a→Q (.exit b1) a w)
    (hno:(∃ x∈m,x.2≠0)→∀ (E:Env) (a:Act) (w:World),ah G pn E S1 w→TR E (S1.t.set R (.v (.bool false))) a→Q .ret a w) :
    ∀ (k:Nat) (seen:Array Nat) (E:Env) (a:Act) (w:World),(leftOf ms seen).size<k→ah G pn E S1 w→TR E S1.t a→a.eval (.tmp (T0 + 1))=.pointer (some ⟨r,0,none⟩)→Ih G E w b r ms clock seen→(∀ e∈ms.toList,seen.contains e.born=true→e.val=.int .u64 0) →
      Code.roundsIn (rd rr) 0 P (.seq (.region r2 #[xY (some (T0 + 2)) (.next (.tmp (T0 + 1)) false) 0 p1 #[],xY (some (T0 + 3)) (.extract (.tmp (T0 + 2)) 0) bt p1 a4] false)
      (.seq (.cond (.tmp (T0 + 3)) .skip (.exit b1)) (.block b2 (.seq (.region r3 #[xY (some (T0 + 4)) (.entry (.tmp (T0 + 1))) 0 p1 #[],xY (some (T0 + 5)) (.extract (.tmp (T0 + 4)) 1) kt p1 a6,xY (some V) (.assign (.tmp (T0 + 5))) kt p1 a7] false)
        (.seq (.region r4 #[xY (some (T0 + 6)) (.move (.tmp V)) kt p2 #[],xY (some (T0 + 7)) (.binOp .neq kt (.tmp (T0 + 6)) (.const (.int .u64 0)) kt) bt p2 a9] false)
          (.cond (.tmp (T0 + 7)) (.seq (.region r5 #[xY (some R) (.assign (.const (.bool false))) bt p3 #[]] false) .ret) .skip)))))) Q k a w
  | 0,_,_,_,_,h,_,_,_,_,_=>by omega
  | k + 1,seen,E,a,w,hk,hM,ht,hit,hI,hz=>by
    have hsz:∀ j:Nat,(j=V∨T0≤j∧j<T0 + 8)→j<a.tmps.size:=fun j hj=>by
      rw [← ht.len]
      exact (List.getElem?_eq_some_iff.1 (hb j hj)).1
    show (Code.seq _ _).wpIn (rd rr) 0 P _ a w
    refine wpIn_seq (wpIn_region_lit ?_)
    rcases Fp (P:=P) hM hI 0 with ⟨h0,hrun⟩ | ⟨e,he,w',hrun,hle,hM',hI',hent⟩
    · -- nothing is left
      refine CR rfl (fun c h=>by cases h) rfl (v:=.tuple #[.bool false]) (w':=w) (by simp only [execOp,hit]; simp [hrun,Result.andThen]) ?_
      have t1:=ht.putb (hb (T0 + 2) (.inr ⟨by omega,by omega⟩)) (.tuple #[.bool false])
      have v1:(a.put (some (T0 + 2)) (.tuple #[.bool false])).eval (.tmp (T0 + 2))=.tuple #[.bool false]:=iq (hsz _ (.inr ⟨by omega,by omega⟩))
      have s1:=gr a (some (T0 + 2)) (.tuple #[.bool false])
      generalize a.put (some (T0 + 2)) (.tuple #[.bool false])=a1 at t1 v1 s1
      refine CR rfl (fun c h=>by cases h) rfl (v:=.bool false) (w':=w) (by simp only [execOp,v1]; rfl) ?_
      have t2:=t1.putb (hb (T0 + 3) (.inr ⟨by omega,by omega⟩)) (.bool false)
      have v2:(a1.put (some (T0 + 3)) (.bool false)).eval (.tmp (T0 + 3))=.bool false:=iq (by rw [s1]; exact hsz _ (.inr ⟨by omega,by omega⟩))
      generalize a1.put (some (T0 + 3)) (.bool false)=a2 at t2 v2
      refine wpIn_seq (wpIn_cond_false v2 (wpIn_exit ?_))
      refine hyes (fun x hx=>?_) E a2 w hM t2
      obtain ⟨i,hi,rfl⟩:=List.getElem_of_mem hx
      have hi2:i<ms.size:=by omega
      have hv:=hval i m[i] ms[i] (List.getElem?_eq_getElem hi) (Array.getElem?_eq_getElem hi2)
      have hm:ms[i]∈ms.toList:=by simp
      have:=hz _ hm (all_seen ms seen h0 _ hm)
      rw [hv] at this
      exact (Value.int.inj this).2
    · -- an entry has come
      have hem:e∈ms.toList:=by
        unfold leftOf at he
        rw [Array.toList_filter,List.mem_filter] at he
        exact he.1
      obtain ⟨i,hi,rfl⟩:=List.getElem_of_mem hem
      rw [Array.length_toList] at hi
      rw [Array.getElem_toList] at hrun hI' hent he
      have hv:=hval i m[i] ms[i] (List.getElem?_eq_getElem (by omega)) (Array.getElem?_eq_getElem hi)
      have ht:=ht.mono hle
      generalize hE':(⟨E.F,E.mu,w'.heap⟩:Env)=E' at hM' ht hI'
      refine CR rfl (fun c h=>by cases h) rfl (v:=.tuple #[.bool true,ms[i].key,ms[i].val]) (w':=w') (by simp only [execOp,hit]; simp [hrun,Result.andThen]) ?_
      have t1:=ht.putb (hb (T0 + 2) (.inr ⟨by omega,by omega⟩)) (.tuple #[.bool true,ms[i].key,ms[i].val])
      have v1:(a.put (some (T0 + 2)) (.tuple #[.bool true,ms[i].key,ms[i].val])).eval (.tmp (T0 + 2))=.tuple #[.bool true,ms[i].key,ms[i].val]:=iq (hsz _ (.inr ⟨by omega,by omega⟩))
      have i1:(a.put (some (T0 + 2)) (.tuple #[.bool true,ms[i].key,ms[i].val])).eval (.tmp (T0 + 1))=.pointer (some ⟨r,0,none⟩):=(uJ (by omega)).trans hit
      have s1:=gr a (some (T0 + 2)) (.tuple #[.bool true,ms[i].key,ms[i].val])
      generalize a.put (some (T0 + 2)) (.tuple #[.bool true,ms[i].key,ms[i].val])=a1 at t1 v1 s1 i1
      refine CR rfl (fun c h=>by cases h) rfl (v:=.bool true) (w':=w') (by simp only [execOp,v1]; rfl) ?_
      have t2:=t1.putb (hb (T0 + 3) (.inr ⟨by omega,by omega⟩)) (.bool true)
      have v2:(a1.put (some (T0 + 3)) (.bool true)).eval (.tmp (T0 + 3))=.bool true:=iq (by rw [s1]; exact hsz _ (.inr ⟨by omega,by omega⟩))
      have i2:(a1.put (some (T0 + 3)) (.bool true)).eval (.tmp (T0 + 1))=.pointer (some ⟨r,0,none⟩):=(uJ (by omega)).trans i1
      have s2:=(gr a1 (some (T0 + 3)) (.bool true)).trans s1
      generalize a1.put (some (T0 + 3)) (.bool true)=a2 at t2 v2 s2 i2
      refine wpIn_seq (wpIn_cond_true v2 (wpIn_skip ?_))
      refine wpIn_block (wpIn_seq (wpIn_region_lit ?_))
      refine CR rfl (fun c h=>by cases h) rfl (v:=.tuple #[ms[i].key,ms[i].val]) (w':=w') (by simp only [execOp,i2]; simp [hent,Result.andThen]) ?_
      have t3:=t2.putb (hb (T0 + 4) (.inr ⟨by omega,by omega⟩)) (.tuple #[ms[i].key,ms[i].val])
      have v3:(a2.put (some (T0 + 4)) (.tuple #[ms[i].key,ms[i].val])).eval (.tmp (T0 + 4))=.tuple #[ms[i].key,ms[i].val]:=iq (by rw [s2]; exact hsz _ (.inr ⟨by omega,by omega⟩))
      have i3:(a2.put (some (T0 + 4)) (.tuple #[ms[i].key,ms[i].val])).eval (.tmp (T0 + 1))=.pointer (some ⟨r,0,none⟩):=(uJ (by omega)).trans i2
      have s3:=(gr a2 (some (T0 + 4)) (.tuple #[ms[i].key,ms[i].val])).trans s2
      generalize a2.put (some (T0 + 4)) (.tuple #[ms[i].key,ms[i].val])=a3 at t3 v3 s3 i3
      refine CR rfl (fun c h=>by cases h) rfl (v:=ms[i].val) (w':=w') (by simp only [execOp,v3]; rfl) ?_
      have t4:=t3.putb (hb (T0 + 5) (.inr ⟨by omega,by omega⟩)) ms[i].val
      have v4:(a3.put (some (T0 + 5)) ms[i].val).eval (.tmp (T0 + 5))=ms[i].val:=iq (by rw [s3]; exact hsz _ (.inr ⟨by omega,by omega⟩))
      have i4:(a3.put (some (T0 + 5)) ms[i].val).eval (.tmp (T0 + 1))=.pointer (some ⟨r,0,none⟩):=(uJ (by omega)).trans i3
      have s4:=(gr a3 (some (T0 + 5)) ms[i].val).trans s3
      generalize a3.put (some (T0 + 5)) ms[i].val=a4 at t4 v4 s4 i4
      refine CR rfl (fun c h=>by cases h) rfl (v:=ms[i].val) (w':=w') (by simp only [execOp,v4]; rfl) ?_
      have t5:=t4.putb (hb V (.inl rfl)) ms[i].val
      have v5:(a4.put (some V) ms[i].val).eval (.tmp V)=ms[i].val:=iq (by rw [s4]; exact hsz _ (.inl rfl))
      have i5:(a4.put (some V) ms[i].val).eval (.tmp (T0 + 1))=.pointer (some ⟨r,0,none⟩):=(uJ (by omega)).trans i4
      have s5:=(gr a4 (some V) ms[i].val).trans s4
      generalize a4.put (some V) ms[i].val=a5 at t5 v5 s5 i5
      refine wpIn_seq (wpIn_region_lit ?_)
      refine CR rfl (fun c h=>by cases h) rfl (v:=ms[i].val) (w':=w') (by simp only [execOp,v5]; rfl) ?_
      have t6:=t5.putb (hb (T0 + 6) (.inr ⟨by omega,by omega⟩)) ms[i].val
      have v6:(a5.put (some (T0 + 6)) ms[i].val).eval (.tmp (T0 + 6))=ms[i].val:=iq (by rw [s5]; exact hsz _ (.inr ⟨by omega,by omega⟩))
      have i6:(a5.put (some (T0 + 6)) ms[i].val).eval (.tmp (T0 + 1))=.pointer (some ⟨r,0,none⟩):=(uJ (by omega)).trans i5
      have s6:=(gr a5 (some (T0 + 6)) ms[i].val).trans s5
      generalize a5.put (some (T0 + 6)) ms[i].val=a6 at t6 v6 s6 i6
      refine CR rfl (fun c h=>by cases h) rfl (v:=.bool (m[i].2 != 0)) (w':=w') (by
        simp only [execOp,v6,hv]
        have:=Fq (P:=P) kt m[i].2 (.tmp (T0 + 6)) (.const (.int .u64 0)) w'
        have e0:a6.eval (.const (.int .u64 0))=.int .u64 0:=rfl
        rw [e0,Sem.run_bind,this]
        rfl) ?_
      have t7:=t6.putb (hb (T0 + 7) (.inr ⟨by omega,by omega⟩)) (.bool (m[i].2 != 0))
      have v7:(a6.put (some (T0 + 7)) (.bool (m[i].2 != 0))).eval (.tmp (T0 + 7))=.bool (m[i].2 != 0):=iq (by rw [s6]; exact hsz _ (.inr ⟨by omega,by omega⟩))
      have i7:(a6.put (some (T0 + 7)) (.bool (m[i].2 != 0))).eval (.tmp (T0 + 1))=.pointer (some ⟨r,0,none⟩):=(uJ (by omega)).trans i6
      generalize a6.put (some (T0 + 7)) (.bool (m[i].2 != 0))=a7 at t7 v7 i7
      refine wpIn_cond_split v7 (fun hb1=>?_) (fun hb1=>?_)
      · refine wpIn_seq (wpIn_region_lit ?_)
        refine CR rfl (fun c h=>by cases h) rfl (v:=.bool false) (w':=w') rfl ?_
        refine wpIn_ret ?_
        exact hno ⟨m[i],List.getElem_mem _,by simpa using hb1⟩ E' _ w' hM' (t7.putv (.v _ _ rfl))
      · refine wpIn_skip ?_
        refine rn hlen hval hb hV hRT hRV hyes hno k (seen.push ms[i].born) E' a7 w' ?_ hM' t7 i7 hI' ?_
        · have:=left_shrinks ms seen ms[i] he
          omega
        · intro x hx hs
          by_cases hxe:x.born=ms[i].born
          · have:x=ms[i]:=born_inj hI.uniq hx (by simp) hxe
            rw [this,hv]
            have:m[i].2=0:=by simpa using hb1
            rw [this]
          · refine hz x hx ?_
            rw [contains_push] at hs
            simpa [hxe] using hs
theorem zR {j:Nat}:∀ (is:List Nat) {t:List AV},t[j]?=some .bad→(is.foldl (fun t i=>t.set i AV.bad) t)[j]?=some .bad
  | [],_,h=>h
  | i::is,t,h=>zR is (by
    rw [List.getElem?_set]
    split
    · rename_i e
      subst e
      rw [if_pos (List.getElem?_eq_some_iff.1 h).1]
    · exact h)
theorem En {j:Nat}:∀ (is:List Nat) {t:List AV},j∈is→j<t.length→(is.foldl (fun t i=>t.set i AV.bad) t)[j]?=some .bad
  | [],_,h,_=>by cases h
  | i::is,t,h,hl=>by
    by_cases e:j=i
    · subst e
      exact zR is (by rw [List.getElem?_set_self hl])
    · rcases List.mem_cons.1 h with h | h
      · exact absurd h e
      · exact En is h (by rw [List.length_set]; exact hl)
/-- The whole: the map's own slot is M, what is returned R. -/
theorem CS {kk ke:TypeId} (hmt:P.underlying mt=some (.map kk ke)) {S:St} {id:Nat} {fl:Bool} {m:List (Int×Int)} {f:Int→AV} {bz:Bool} (hz:bz=m.all fun e=>e.2==0) (hl:T0 + 8≤S.t.length) (hV:V<T0) (hRT:R<T0) (hRV:R≠V) (hM3:S.t[M]?=some (.mp id))
    (ho:S.o[id]?=some (.mapo fl (m.map (jJ f (cI .u64))))) :
    dN P (F6 mt kt bt T0 M R r1 r2 r3 r4 r5 r6 b1 b2 V p1 p2 p3 p4 a2 a4 a6 a7 a9) S fun e S'=>e=.ret∧S'={ S with t:=([V,T0,T0 + 1,T0 + 2,T0 + 3,T0 + 4,T0 + 5,T0 + 6,T0 + 7].foldl (fun t i=>t.set i .bad) S.t).set R (.v (.bool bz)) }:=by
  refine ⟨_,_,fun rr G E a w Q hM ht hQ=>?_,rfl,rfl⟩
  obtain ⟨t1,ht1⟩:∃ t1,[V,T0,T0 + 1,T0 + 2,T0 + 3,T0 + 4,T0 + 5,T0 + 6,T0 + 7].foldl (fun t i=>t.set i .bad) S.t=t1:=⟨_,rfl⟩
  rw [ht1] at hQ
  have htb:=TR.bads [V,T0,T0 + 1,T0 + 2,T0 + 3,T0 + 4,T0 + 5,T0 + 6,T0 + 7] ht
  rw [ht1] at htb
  have hb:∀ j:Nat,(j=V∨T0≤j∧j<T0 + 8)→t1[j]?=some .bad:=fun j hj=>by
    rw [← ht1]
    refine En _ ?_ (by omega)
    simp only [List.mem_cons,List.not_mem_nil,or_false]
    omega
  have hM1:ah G pn E { S with t:=t1 } w:=hM.congr rfl rfl rfl
  have hml:M<a.tmps.size:=by
    rw [← ht.len]
    exact (List.getElem?_eq_some_iff.1 hM3).1
  obtain ⟨b,_,_,_,ms,clock,hu,_,hbb,⟨hlen,hborn⟩,hent⟩:=Fo hM ho (ht.val M _ _ hM3 (Array.getElem?_eq_getElem hml))
  have hev:a.eval (.tmp M)=.map (some b):=by
    simp only [Act.eval,Array.getD_eq_getD_getElem?,Array.getElem?_eq_getElem hml,Option.getD_some]
    exact hu
  have hsz:∀ j:Nat,(j=V∨T0≤j∧j<T0 + 8)→j<a.tmps.size:=fun j hj=>by
    rw [← htb.len]
    exact (List.getElem?_eq_some_iff.1 (hb j hj)).1
  refine wpIn_seq (wpIn_seq (wpIn_region_lit ?_))
  refine CR rfl (fun c h=>by cases h) rfl (v:=.map (some b)) (w':=w) (by simp only [execOp,hev]; rfl) ?_
  have t2:=htb.putb (hb T0 (.inr ⟨by omega,by omega⟩)) (.map (some b))
  have v2:(a.put (some T0) (.map (some b))).eval (.tmp T0)=.map (some b):=iq (hsz _ (.inr ⟨by omega,by omega⟩))
  have s2:=gr a (some T0) (.map (some b))
  generalize a.put (some T0) (.map (some b))=a' at t2 v2 s2
  obtain ⟨w',hrun,hle,hM',hI⟩:=Em (P:=P) hM1 hmt hbb hborn
  refine CR rfl (fun c h=>by cases h) rfl (v:=.pointer (some ⟨w.heap.size,0,none⟩)) (w':=w') (by simp only [execOp,v2]; simp [hrun,Result.andThen]) ?_
  have t3:=(t2.mono hle).putb (hb (T0 + 1) (.inr ⟨by omega,by omega⟩)) (.pointer (some ⟨w.heap.size,0,none⟩))
  have v3:(a'.put (some (T0 + 1)) (.pointer (some ⟨w.heap.size,0,none⟩))).eval (.tmp (T0 + 1))=.pointer (some ⟨w.heap.size,0,none⟩):=iq (by rw [s2]; exact hsz _ (.inr ⟨by omega,by omega⟩))
  generalize a'.put (some (T0 + 1)) (.pointer (some ⟨w.heap.size,0,none⟩))=a'' at t3 v3
  refine wpIn_block (wpIn_loop_rounds (ms.size + 1) ?_)
  have hml2:m.length=ms.size:=by rw [← hlen,List.length_map]
  refine rn (S1:={ S with t:=t1 }) (m:=m) hml2 (fun i x e hx he=>?_) hb hV hRT hRV (fun hall E1 a1 w1 hM1 ht1'=>?_) (fun hex E1 a1 w1 hM1 ht1'=>?_) (ms.size + 1) #[] _ a'' w' ?_ hM' t3 v3 hI ?_
  · have:=(hent i (jJ f (cI .u64) x) e (by rw [List.getElem?_map,hx]; rfl) he).2
    exact this.vI.1
  · have hbz:bz=true:=by
      rw [hz,List.all_eq_true]
      intro x hx
      simp [hall x hx]
    subst hbz
    show Exit.inBlock b1 _ (.exit b1) a1 w1
    unfold Exit.inBlock
    simp only [if_pos]
    refine wpIn_seq (wpIn_region_lit ?_)
    refine CR rfl (fun c h=>by cases h) rfl (v:=.bool true) (w':=w1) rfl ?_
    refine wpIn_ret ?_
    exact hQ .ret _ E1 _ w1 ⟨rfl,rfl⟩ (hM1.congr rfl rfl rfl) (ht1'.putv (.v _ _ rfl))
  · have hbz:bz=false:=by
      rw [hz,List.all_eq_false]
      obtain ⟨x,hx,hx0⟩:=hex
      exact ⟨x,hx,by simpa using hx0⟩
    subst hbz
    exact hQ .ret _ E1 a1 w1 ⟨rfl,rfl⟩ (hM1.congr rfl rfl rfl) ht1'
  · unfold leftOf
    have:=Array.size_filter_le (p:=fun e:MapEntry=>!(#[]:Array Nat).contains e.born) (xs:=ms)
    omega
  · intro e he hs
    simp at hs
end
/-- What is not needed any more goes. -/
theorem CU {P:Program} {c:Code} {S S1:St} (h:dN P c S fun e S'=>e=.ret∧S'=S1) (W:Wk) {o:Ex×St} (ho:(Ex.ret,wk W S1)=o):dN P c S fun e S'=>e=o.1∧S'=o.2:=by
  subst ho
  obtain ⟨e,S',h1,rfl,rfl⟩:=h
  refine ⟨.ret,wk W S',fun r G E a w Q hM ht hQ=>h1 r G E a w Q hM ht (fun e S'' E' a' w' hk hS htr=>?_),rfl,rfl⟩
  obtain ⟨rfl,rfl⟩:=hk
  obtain ⟨E2,hM2,ht2⟩:=lN W _ G E' a' w' hS htr
  exact hQ .ret _ E2 a' w' ⟨rfl,rfl⟩ hM2 ht2
end A
end Go.Proofs.Ytcckeabholabcaa
