/- An allowed candidate respects what is preserved: the law, on lists and numbers. Nothing is claimed of the program here. -/
import Derived.Test.YtomahedcdcnnhaaGreatDoorX2
import Derived.KernelRfl
namespace Go.Proofs.YtomahedcdcnnhaaGreatDoor
open Go A

theorem E0 {n:Nat} {c:af} (hr:cK n c) {w w':List (Int×List Int)} {pl pl':List Int} (h:rm c w pl) (h':rm c w' pl'):pl=pl':=by
 apply List.ext_getElem
 ·rw [h.len,h'.len]
 ·intro k hk hk'
  rcases h.plc k hk with ⟨e,hno⟩ | ⟨a,ha,h1,h2,h3⟩
  ·rcases h'.plc k hk' with ⟨e',_⟩ | ⟨a',ha',h1',h2',_⟩
   ·rw [e,e']
   ·exact absurd h2' (hno a' h1' ha')
  ·rcases h'.plc k hk' with ⟨_,hno⟩ | ⟨a',ha',h1',h2',h3'⟩
   ·exact absurd h2 (hno a h1 ha)
   ·have:a=a':=by
     rcases Nat.lt_trichotomy a a' with hlt | heq | hlt
     ·exact absurd (h2.trans h2'.symm) (hr.dist a a' ha ha' hlt)
     ·exact heq
     ·exact absurd (h2'.trans h2.symm) (hr.dist a' a ha' ha hlt)
    rw [h3,h3',this]
theorem E4 (n:Nat) (c:af) (hc:cS c) (hr:cK n c) (hn:200≤n):T (lT n c) (fun l=>l.length=c.am.flatten.length∧sw c l c.bt.length):=by
 have hf:=hc.all
 have hor:=hc.order
 unfold lT
 refine T.eqb (L2 n c hc hn hr) ?_
 refine T.ite (fun d=>by simp at d) (fun _=>?_)
 rw [hr.fromLen]
 refine T.grd (by simp [-List.length_flatten]; omega) ?_
 rw [Int.toNat_natCast]
 refine T.bind (P:=fun l=>l=List.replicate c.am.flatten.length (-1)) ?_ (fun l hl=>?_)
 ·refine T.loop c.am.flatten.length (fun i s=>s=(List.replicate i (-1)++List.replicate (c.am.flatten.length - i) 0,(i:Int))) _ ?_ (by simp) (by omega)
  rintro i s hi rfl
  unfold kr
  dsimp only
  have hlen:(List.replicate i (-1:Int)++List.replicate (c.am.flatten.length - i) 0).length=c.am.flatten.length:=by
   simp only [List.length_append,List.length_replicate]
   omega
  rw [hlen]
  refine T.ite (fun cd=>?_) (fun cd=>?_)
  ·have hil:=bp cd
   refine T.get i rfl (by rw [hlen]; exact hil) ?_
   refine T.ret ⟨hil,?_⟩
   rw [aG _ (by omega),Int.toNat_natCast]
   congr 1
   apply List.ext_getElem
   ·simp only [List.length_set,List.length_append,List.length_replicate]
    omega
   ·intro k h1 h2
    rw [List.getElem_set]
    split
    ·rename_i e
     subst e
     rw [List.getElem_append_left (by simp)]
     simp
    ·rename_i e
     by_cases hk:k<i
     ·rw [List.getElem_append_left (by simpa using hk),List.getElem_append_left (by simp; omega)]
      simp
     ·rw [List.getElem_append_right (by simp; omega),List.getElem_append_right (by simp; omega)]
      simp
  ·have:=bI cd
   have e:i=c.am.flatten.length:=by omega
   subst e
   exact T.fin (by simp)
 ·subst hl
  refine T.bind (P:=fun l=>l.length=c.am.flatten.length∧sw c l c.bt.length) ?_ (fun l hl=>T.ret hl)
  refine T.loop c.bt.length (fun i s=>s.2=(i:Int)∧s.1.length=c.am.flatten.length∧sw c s.1 i) _ ?_ ⟨rfl,by simp,fun k hk=>.inl ⟨by simp,fun a h=>by omega⟩⟩ (by omega)
  rintro i ⟨s1,s2⟩ hi ⟨e1,e2,hq⟩
  dsimp only at e1 e2 hq
  subst e1
  unfold ku
  refine T.ite (fun cd=>?_) (fun cd=>?_)
  ·have hil:=bp cd
   obtain ⟨j,hj,hoj,_⟩:=hr.ord i hil
   refine T.get i rfl hil ?_
   refine T.get j hoj (by dsimp only; omega) ?_
   refine T.ret ⟨hil,aG _ (by omega),by dsimp only; rw [List.length_set]; exact e2,fun k hk=>?_⟩
   dsimp only at hk ⊢
   rw [Dp hoj hk (by rw [List.length_set] at hk; exact hk)]
   by_cases e:j=k
   ·subst e
    rw [if_pos rfl]
    exact .inr ⟨i,hil,by omega,hoj,rfl⟩
   ·rw [if_neg e]
    rcases hq k (by rw [List.length_set] at hk; exact hk) with ⟨h1,h2⟩ | ⟨a,ha,h1,h2,h3⟩
    ·refine .inl ⟨h1,fun a hai ha=>?_⟩
     by_cases e3:a=i
     ·subst e3; rw [hoj]; omega
     ·exact h2 a (by omega) ha
    ·exact .inr ⟨a,ha,by omega,h2,h3⟩
  ·have:=bI cd
   have e:i=c.bt.length:=by omega
   subst e
   exact T.fin ⟨e2,hq⟩


theorem Hc (n:Nat) (c:af) (o:List Int) (a b:Int):bL n (VV (af.mk c.gc c.am c.la o)) a b=bL n (VV c) a b:=by
 obtain ⟨f,h,fr,od⟩:=c
 rfl
theorem Lp {n:Nat} {c:af} {v:ai} (R:tP n c v) (a:Nat) (ha:a<c.am.flatten.length):rv n v a a=0:=by
 refine R.no a a ha ha ?_
 rw [hJ ha ha]
 simp
theorem Hd {n:Nat} {c:af} (hr:cK n c) {w:List (Int×List Int)} {pl:List Int} (ct:rm c w pl) {v:ai} (R:tP n c v) (x y:Nat) (hx:x<c.am.flatten.length) (hy:y<c.am.flatten.length) (h:0<rv n v x y):OC pl (x:Int)≠OC pl (y:Int):=by
 have hah:=yM R hx hy h
 rw [hJ hx hy] at hah
 simp only [Bool.and_eq_true,decide_eq_true_eq] at hah
 obtain ⟨a,ha,ea⟩:=Dv hr x hx hah.2.2.1
 obtain ⟨b,hb,eb⟩:=Dv hr y hy hah.2.2.2
 have h1:=F6 hr ct a ha
 have h2:=F6 hr ct b hb
 rw [ea] at h1
 rw [eb] at h2
 rw [h1,h2]
 intro e
 have e:a=b:=by omega
 subst e
 rw [ea] at eb
 omega
set_option maxRecDepth 1000000 in
set_option maxHeartbeats 0 in
theorem OE:nr 4000=some true:=by kernel_rfl
theorem E5 (n:Nat) (c:af) (i0 k0:Int) (hlv:nr n=some true) (hn:4000≤n):T (gq n c i0 k0) (fun b=>b=true):=by
 unfold gq
 refine T.eqb hlv ?_
 refine T.ite (fun d=>by cases d) (fun _=>?_)
 refine T.bind (Ov n c 30 (by omega) (by omega)) (fun b hb=>?_)
 refine T.ite (fun _=>T.ret rfl) (fun d=>?_)
 obtain ⟨hc,hN⟩:=hb (jD d)
 refine T.bind (UM n c hc hn) (fun b hb=>?_)
 refine T.ite (fun _=>T.ret rfl) (fun d=>?_)
 obtain ⟨hr,w,pl,ct,hord,hval,hpair⟩:=hb (jD d)
 have hf:=hc.all
 have hor:=hc.order
 refine T.ite (fun _=>T.ret rfl) (fun d0=>?_)
 have hpos:1≤c.bt.length:=by
  have:¬ ((c.bt.length:Int)=0):=by simpa using d0
  omega
 refine T.bind (E4 n c hc hr (by omega)) (fun l ⟨hl,hp⟩=>?_)
 have epl:l=pl:=E0 hr (w:=w) ⟨ct.has,hl,hp⟩ ct
 subst epl
 obtain ⟨_,hof,v,rfl,hxv⟩:=R9 n c hc (by omega) hr
 have R:=EU n c v hxv.view hc hr (by omega)
 obtain ⟨v2,_,hof2,_,hord⟩:=hord
 have ev:v2=v:=by
  rw [hof] at hof2
  exact (Option.some.inj (Option.some.inj hof2)).symm
 subst ev
 have hRef:=L2 n c hc (by omega) hr
 have hpairs:T (nv n c) (fun ps=>PQ n c.am.flatten.length v2 c.am.flatten.length 0 ps):=by
  unfold nv
  refine T.eqb (L9 n c hc (by omega) hRef) ?_
  exact T.bind (EZ hxv hc hr R hN (by omega)) (fun ps hps=>T.ret hps)
 refine T.bind hpairs (fun ps hps=>?_)
 have hlen:=hps.len
 refine T.bind (P:=fun t=>t=.inl ()) ?_ ?_
 ·refine T.loop ps.length (fun i s=>s=(i:Int)) _ ?_ rfl (by omega)
  rintro i s hi rfl
  unfold fZ
  refine T.ite (fun cd=>?_) (fun cd=>T.fin rfl)
  have hil:=bp cd
  refine T.get i rfl hil ?_
  obtain ⟨x,y,hxy,hx,hy,hp,_⟩:=hps.el _ (List.getElem_mem hil)
  have hx2:x<l.length:=by omega
  have hy2:y<l.length:=by omega
  refine T.get x (by rw [hxy]) hx2 ?_
  refine T.get y (by rw [hxy]) hy2 ?_
  have h1:=hord x y hx2 hy2 hp
  have h2:=Hd hr ct R x y hx hy hp
  rw [yO hx2,yO hy2] at h2
  refine T.ite (fun d=>absurd (of_decide_eq_true d) (by omega)) (fun _=>?_)
  exact T.ret ⟨hil,aG _ (by omega)⟩
 ·rintro t rfl
  dsimp only
  refine T.bind (L3 n i0 c.bt.length hpos (by omega)) (fun iz ⟨i1,i2⟩=>?_)
  refine T.bind (L3 n k0 c.bt.length hpos (by omega)) (fun kz ⟨k1,k2⟩=>?_)
  obtain ⟨mn,emn⟩:∃ m:Nat,lk iz kz=(m:Int):=⟨(lk iz kz).toNat,by unfold lk; split <;> omega⟩
  obtain ⟨mx,emx⟩:∃ m:Nat,wI iz kz=(m:Int):=⟨(wI iz kz).toNat,by unfold wI; split <;> omega⟩
  have hle:mn≤mx∧mx<c.bt.length:=by
   unfold lk at emn
   unfold wI at emx
   split at emn <;> split at emx <;> omega
  rw [emn,emx]
  obtain ⟨ja,hja,eja,_⟩:=hr.ord mn (by omega)
  obtain ⟨jb,hjb,ejb,_⟩:=hr.ord mx hle.2
  refine T.get mn rfl (by omega) ?_
  refine T.get mx rfl hle.2 ?_
  rw [eja,ejb]
  refine T.eqb (JA n c hc (by omega)) ?_
  dsimp only
  rw [Int.toNat_natCast,Int.toNat_natCast]
  refine T.get mn rfl (by omega) ?_
  refine T.get mx rfl (by rw [List.length_set]; exact hle.2) ?_
  have hrule:pq n c (ja:Int) (jb:Int)=some (rv n v2 ja jb):=by
   unfold pq
   rw [L9 n c hc (by omega) hRef]
   show ((bL n (VV c) (ja:Int) (jb:Int)).bind fun y3=>some y3)=_
   rw [tT hxv hc hr R (by omega) ja jb hja hjb]
   rfl
  refine T.eqb hrule ?_
  refine T.ite (fun _=>T.ret rfl) (fun d1=>?_)
  have hpos2:0<rv n v2 ja jb:=by
   have h1:rv n v2 ja jb≠0:=by simpa using d1
   have:=(Ju R hja hjb).1
   omega
  have hx:cS (af.mk c.gc c.am c.la ((c.bt.set mn (jb:Int)).set mx (ja:Int))):=⟨hc.harts,hc.all,hc.first,hc.from_,by dsimp only; rw [List.length_set,List.length_set]; exact hc.order,hc.rows⟩
  refine T.bind (UM n _ hx hn) (fun b hb=>?_)
  refine T.ret ?_
  cases b with
  | false=>rfl
  | true =>
   exfalso
   obtain ⟨hr',w',pl',ct',hord',_,_⟩:=hb rfl
   obtain ⟨_,hof3,v3,rfl,hxv3⟩:=R9 n _ hx (by omega) hr'
   have R3:=EU n _ v3 hxv3.view hx hr' (by omega)
   obtain ⟨v4,_,hof4,_,hord'⟩:=hord'
   have ev:v4=v3:=by
    rw [hof3] at hof4
    exact (Option.some.inj (Option.some.inj hof4)).symm
   subst ev
   have h1:=tT hxv3 hx hr' R3 (by omega) ja jb hja hjb
   rw [Hc,tT hxv hc hr R (by omega) ja jb hja hjb] at h1
   have h1:=Option.some.inj h1
   by_cases emm:mn=mx
   ·subst emm
    have:ja=jb:=by omega
    subst this
    rw [Lp R ja hja] at hpos2
    omega
   ·have hlx:mx<((c.bt.set mn (jb:Int)).set mx (ja:Int)).length:=by rw [List.length_set,List.length_set]; exact hle.2
    have hln:mn<((c.bt.set mn (jb:Int)).set mx (ja:Int)).length:=by rw [List.length_set,List.length_set]; omega
    have p1:=F6 hr' ct' mx hlx
    have p2:=F6 hr' ct' mn hln
    have e1:((c.bt.set mn (jb:Int)).set mx (ja:Int))[mx]=(ja:Int):=by simp
    have e2:((c.bt.set mn (jb:Int)).set mx (ja:Int))[mn]=(jb:Int):=by
     rw [List.getElem_set_ne (fun e=>emm e.symm)]
     simp
    have p1:OC pl' (ja:Int)=(mx:Int):=by rw [← e1]; exact p1
    have p2:OC pl' (jb:Int)=(mn:Int):=by rw [← e2]; exact p2
    have hA:ja<pl'.length:=by rw [ct'.len]; exact hja
    have hB:jb<pl'.length:=by rw [ct'.len]; exact hjb
    have h2:=hord' ja jb hA hB (by rw [← h1]; exact hpos2)
    rw [yO hA] at p1
    rw [yO hB] at p2
    omega
theorem Dx (c:af) (i0 k0:Int):gq 4000 c i0 k0=some true:=by
 obtain ⟨r,h,e⟩:=E5 4000 c i0 k0 OE (Nat.le_refl _)
 rw [h,e]

end Go.Proofs.YtomahedcdcnnhaaGreatDoor
