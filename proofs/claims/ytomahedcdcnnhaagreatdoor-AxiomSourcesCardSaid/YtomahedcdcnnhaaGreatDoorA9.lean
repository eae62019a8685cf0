/- An order alone determines what is read: the law, on lists and numbers. Nothing is claimed of the program here. -/
import Derived.Test.YtomahedcdcnnhaaGreatDoorA2
import Derived.KernelRfl
namespace Go.Proofs.YtomahedcdcnnhaaGreatDoor
open Go A

theorem xr {n:Nat} {c:ae} (hr:eQ n c) {w w':List (Int×List Int)} {pl pl':List Int} (h:qj c w pl) (h':qj c w' pl'):pl=pl':=by
  apply List.ext_getElem
  · rw [h.len,h'.len]
  · intro k hk hk'
    rcases h.plc k hk with ⟨e,hno⟩ | ⟨a,ha,h1,h2,h3⟩
    · rcases h'.plc k hk' with ⟨e',_⟩ | ⟨a',ha',h1',h2',_⟩
      · rw [e,e']
      · exact absurd h2' (hno a' h1' ha')
    · rcases h'.plc k hk' with ⟨_,hno⟩ | ⟨a',ha',h1',h2',h3'⟩
      · exact absurd h2 (hno a h1 ha)
      · have:a=a':=by
          rcases Nat.lt_trichotomy a a' with hlt | heq | hlt
          · exact absurd (h2.trans h2'.symm) (hr.dist a a' ha ha' hlt)
          · exact heq
          · exact absurd (h2'.trans h2.symm) (hr.dist a' a ha' ha hlt)
        rw [h3,h3',this]
theorem JD (n:Nat) (c:ae) (hc:dB c) (hr:eQ n c) (hn:200≤n) {w:List (Int×List Int)} {pl:List Int} (ct:qj c w pl) (k:Nat) (hk:k<c.Harts.flatten.length) :
    gp n c (k:Int)=some (if sn c.Harts.flatten[k].Kind=true then FH c pl k hk else -1):=by
  have key:T (gp n c (k:Int)) (fun r=>r=if sn c.Harts.flatten[k].Kind=true then FH c pl k hk else -1):=by
    unfold gp
    refine T.bind (Ka n c hc hr hn) ?_
    rintro r ⟨w',pl',rfl,ct'⟩
    dsimp only
    refine T.ite (fun d=>by have:=of_decide_eq_true d; omega) (fun _=>?_)
    refine T.ite (fun d=>by have:=of_decide_eq_true d; omega) (fun _=>?_)
    refine T.get k rfl hk ?_
    refine T.eqb (i0 _ _) ?_
    refine T.ite (fun d=>?_) (fun d=>?_)
    · have d:sn c.Harts.flatten[k].Kind=false:=by simpa using d
      exact T.ret (by rw [d]; rfl)
    · have d:sn c.Harts.flatten[k].Kind=true:=by simpa using d
      rw [H4]
      refine T.eqb (Ev n c hc hr hn ct' k hk _ _ _ _) ?_
      rw [xr hr ct' ct]
      exact T.ret (by rw [d]; rfl)
  obtain ⟨r,h1,h2⟩:=key
  rw [h1,h2]
set_option maxRecDepth 1000000 in
set_option maxHeartbeats 0 in
theorem Mp:mA 4000=some true:=by kernel_rfl
theorem Ce (n:Nat) (c:ae) (n_ from0:Int) (hlv:mA n=some true) (hn:4000≤n):T (eX n c n_ from0) (fun b=>b=true):=by
  unfold eX
  refine T.eqb hlv ?_
  refine T.ite (fun d=>by cases d) (fun _=>?_)
  refine T.bind (Mh n c 30 (by omega) (by omega)) (fun b hb=>?_)
  refine T.ite (fun _=>T.ret rfl) (fun d=>?_)
  obtain ⟨hc,hN⟩:=hb (kj d)
  refine T.bind (RF n c hc hn) (fun b hb=>?_)
  refine T.ite (fun _=>T.ret rfl) (fun d=>?_)
  obtain ⟨hr,w,pl,ct,hord,hval,hpair⟩:=hb (kj d)
  have hfl:=hr.fromLen
  refine T.ite (fun _=>T.ret rfl) (fun d0=>?_)
  have hpos:1≤c.From.length:=by
    have:¬ ((c.From.length:Int)=0):=by simpa using d0
    omega
  have hfl2:=hc.from_
  unfold uZ
  rw [O8 n c hc (by omega) hr]
  have hall:((some (0:Int)).bind fun y1=>if (y1 != 0)=true then some ([]:List Event) else (jS n c).bind fun y3=>some y3)=some c.Harts.flatten:=by
    rw [HN n c hc (by omega)]
    rfl
  refine T.eqb hall ?_
  refine T.bind (P:=fun t=>t=.inl ()) ?_ ?_
  · refine T.loop c.Harts.flatten.length (fun i s=>s=(i:Int)) _ ?_ rfl (by have:=hc.all; omega)
    rintro i s hi rfl
    unfold eT
    refine T.ite (fun cd=>?_) (fun cd=>T.fin rfl)
    have hil:=bU cd
    refine T.eqb (JD n c hc hr (by omega) ct i hil) ?_
    refine T.get i rfl (by omega) ?_
    have he:c.From[i]'(by omega)=if sn c.Harts.flatten[i].Kind=true then FH c pl i hil else -1:=by
      split
      · rename_i h
        exact hval i hil h
      · rename_i h
        exact (nz n c hr i hil).2 (by simpa using h)
    rw [he]
    refine T.ite (fun d=>by simp at d) (fun _=>?_)
    exact T.ret ⟨hil,aZ _ (by omega)⟩
  · rintro t rfl
    dsimp only
    refine T.bind (J_ n n_ c.From.length hpos (by omega)) (fun kz ⟨k0,k1⟩=>?_)
    obtain ⟨k,rfl⟩:∃ k:Nat,kz=(k:Int):=⟨kz.toNat,by omega⟩
    have hk:k<c.From.length:=by omega
    refine T.eqb (HZ n c hc (by omega)) ?_
    dsimp only
    rw [aZ _ (by omega)]
    refine T.bind (J_ n from0 (c.From.length + 1) (by omega) (by omega)) (fun f _=>?_)
    generalize cj .i64 f 1=g
    refine T.get k rfl hk ?_
    refine T.eqb (a:=g) (by rw [Int.toNat_natCast]; exact QG c.From k g hk) ?_
    refine T.get k rfl hk ?_
    refine T.ite (fun _=>T.ret rfl) (fun d1=>?_)
    have hne:g≠c.From[k]:=by simpa using d1
    have hx:dB (ae.mk c.First c.Harts (c.From.set ((k:Int)).toNat g) c.Order):=⟨hc.harts,hc.all,hc.first,by dsimp only; rw [List.length_set]; exact hc.from_,hc.order,hc.rows⟩
    refine T.bind (zi n _ hx (by omega)) (fun s hs=>?_)
    refine T.ite (fun _=>T.ret rfl) (fun d2=>?_)
    refine T.bind (RF n _ hx hn) (fun b hb=>?_)
    refine T.ret ?_
    cases b with
    | false=>rfl
    | true =>
      exfalso
      obtain ⟨hr',w',pl',ct',_,hval',_⟩:=hb rfl
      have ctx:qj (ae.mk c.First c.Harts (c.From.set ((k:Int)).toNat g) c.Order) w pl:=⟨ct.has,ct.len,ct.plc⟩
      have epl:=xr hr' ct' ctx
      subst epl
      have hkN:k<c.Harts.flatten.length:=by omega
      have hg:(c.From.set ((k:Int)).toNat g)[k]'(by rw [List.length_set]; exact hk)=g:=by simp
      cases hrd:sn c.Harts.flatten[k].Kind with
      | true =>
        have h1:=hval k hkN hrd
        have h2:(c.From.set ((k:Int)).toNat g)[k]'(by rw [List.length_set]; exact hk)=_:=hval' k hkN hrd
        rw [hg] at h2
        exact hne (h2.trans h1.symm)
      | false =>
        have h1:=(nz n c hr k hkN).2 hrd
        have h2:(c.From.set ((k:Int)).toNat g)[k]'(by rw [List.length_set]; exact hk)=-1:=(nz n _ hr' k hkN).2 hrd
        rw [hg] at h2
        exact hne (h2.trans h1.symm)
theorem AG (c:ae) (n_ from0:Int):eX 4000 c n_ from0=some true:=by
  obtain ⟨r,h,e⟩:=Ce 4000 c n_ from0 Mp (Nat.le_refl _)
  rw [h,e]

end Go.Proofs.YtomahedcdcnnhaaGreatDoor
