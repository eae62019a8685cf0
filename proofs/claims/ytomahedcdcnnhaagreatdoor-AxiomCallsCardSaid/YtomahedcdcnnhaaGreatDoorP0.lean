/- What the functions compute, they compute: printed by a program, path by path. No conditions. -/
import Derived.Test.YtomahedcdcnnhaaGreatDoorProg
import Derived.Test.YtomahedcdcnnhaaGreatDoorKT
import Derived.Test.YtomahedcdcnnhaaGreatDoorM1
import Derived.Test.YtomahedcdcnnhaaGreatDoorW1
import Derived.KernelRfl
namespace Go.Proofs.YtomahedcdcnnhaaGreatDoor
open Go A
set_option linter.unusedVariables false
set_option maxRecDepth 100000
def qT (f:Nat):br:={ esc:=match f with | 20=>[1] | 23=>[2] | 37=>[23] | 60=>[1] | 61=>[1] | 64=>[1] | 82=>[24] | 84=>[7] | 98=>[12] | 109=>[8] | _=>[],ms:=match f with | 29=>[26,34] | _=>[],bx:=match f with | 3=>[3,12] | 4=>[1,6,8,12] | 5=>[3,5,7] | 6=>[3,9] | 8=>[2] | 9=>[1] | 10=>[1] | 11=>[1,3] | 13=>[1,2,3] | 14=>[3,7] | 15=>[1] | 16=>[1] | 17=>[1] | 18=>[1] | 20=>[2,6] | 21=>[1,2,3] | 22=>[1] | 24=>[2,5] | 25=>[1,3] | 26=>[1] | 27=>[2,3] | 28=>[1] | 29=>[2] | 31=>[1,2] | 32=>[3] | 36=>[1,6] | 37=>[6] | 38=>[6] | 39=>[2,4] | 40=>[2,4] | 41=>[2,4] | 42=>[0] | 43=>[6] | 44=>[3,7,10] | 45=>[3,8,13] | 46=>[1] | 47=>[5,8] | 54=>[6] | 55=>[3,7] | 56=>[2] | 57=>[4,9,10,13,15,17] | 58=>[1,2] | 59=>[1,2] | 61=>[5] | 62=>[1] | 63=>[1] | 64=>[6] | 68=>[2,3] | 69=>[1] | 71=>[3,7,8] | 72=>[3] | 74=>[1,2] | 75=>[4] | 76=>[7] | 78=>[7,9] | 79=>[8] | 80=>[1,2] | 82=>[7] | 85=>[2,3] | 87=>[1,4,5] | 90=>[1] | 94=>[0] | 100=>[2,3,5,6] | 104=>[2] | 111=>[2] | 131=>[1,2] | 135=>[1] | _=>[],st:=[13,34,37,39,40,41,47,77,81,102],fz:=match f with | 59=>[6,10,14] | _=>[],dc:=[13,34],ow:=match f with | 37=>[21,45,54] | _=>[],cl:=match f with | 37=>[9,11] | _=>[],fr:=match f with | 37=>[11] | _=>[] }
def LK (f:Nat):Bool:=!(fq [13,34,37,39,40,41,47,77,81,102] f)
noncomputable def cfg:u9:={ P:=Tryz.prog,pure:=LK,pol:=qT }
theorem mixed:cfg.P.follows .mixedOrders=true:=by kernel_rfl
theorem KM : (cfg.P.funcs.all fun fn => !(fn.name == "runtime.NumGoroutine")) = true := by kernel_rfl
theorem names:rb cfg.P:=Hq KM
def eA {α:Type} (f:α→List AV) (x:bJ α):List AV:=f x.e0++f x.e1
def Cell.enc (x:Cell):List AV:=[.v (.int .u64 x.Addr),.v (.int .u64 x.Value)]
def Deps.enc (x:Deps):List AV:=[.sl (x.Addr.map (lZ .i64)),.sl (x.Data.map (lZ .i64)),.sl (x.Way.map (lZ .i64))]
def Event.enc (x:Event):List AV:=[.v (.int .i64 x.Hart),.v (.int .i64 x.At),.v (.int .i64 x.Kind),.v (.int .u64 x.Addr),.v (.int .u64 x.Load),.v (.int .u64 x.Store),.v (.bool x.Aq),.v (.bool x.Rl),.v (.int .i64 x.Pred),.v (.int .i64 x.Succ),.v (.int .i64 x.Pair),.sl (x.Deps.Addr.map (lZ .i64)),.sl (x.Deps.Data.map (lZ .i64)),.sl (x.Deps.Way.map (lZ .i64))]
def af.enc (x:af):List AV:=[.sl (x.First.map Cell.enc),.sl (x.Harts.map (dT Event.enc)),.sl (x.From.map (lZ .i64)),.sl (x.Order.map (lZ .i64))]
def aC.enc (x:aC):List AV:=[.v (.bool x.OK),.v (.int .i64 x.Why),.v (.int .i64 x.A_),.v (.int .i64 x.B)]
def aL.enc (x:aL):List AV:=[.v (.int .i64 x.hart),.v (.int .i64 x.at_),.v (.int .i64 x.kind),.v (.int .i64 x.pred),.v (.int .i64 x.succ),.v (.int .i64 x.pair),.v (.int .u64 x.addr),.v (.int .u64 x.load),.v (.int .u64 x.store),.v (.bool x.aq),.v (.bool x.rl)]
def ai.enc (x:ai):List AV:=[(vW af.enc x.c),.sl (x.all.map Event.enc),.sl (x.fences.e0.map (lZ .i64)),.sl (x.fences.e1.map (lZ .i64)),.sl (x.fences.e2.map (lZ .i64)),.sl (x.fences.e3.map (lZ .i64)),.sl (x.hung.map (lZ .i64))]
def ab.enc (x:ab):List AV:=[.sl (x.C_.First.map Cell.enc),.sl (x.C_.Harts.map (dT Event.enc)),.sl (x.C_.From.map (lZ .i64)),.sl (x.C_.Order.map (lZ .i64)),.sl (x.All.map Event.enc)]
theorem gS (x y:aC):jq Tryz.prog .eql 48 [(.bool x.OK),(.int .i64 x.Why),(.int .i64 x.A_),(.int .i64 x.B)] [(.bool y.OK),(.int .i64 y.Why),(.int .i64 y.A_),(.int .i64 y.B)]=some (.bool (aC.beq x y)):=Au (by kernel_rfl) (by kernel_rfl)
theorem qh (x y:Cell):jq Tryz.prog .neq 64 [(.int .u64 x.Addr),(.int .u64 x.Value)] [(.int .u64 y.Addr),(.int .u64 y.Value)]=some (.bool (!Cell.beq x y)):=GA (by kernel_rfl) (by kernel_rfl)
theorem kr (x y:aL):jq Tryz.prog .eql 148 [(.int .i64 x.hart),(.int .i64 x.at_),(.int .i64 x.kind),(.int .i64 x.pred),(.int .i64 x.succ),(.int .i64 x.pair),(.int .u64 x.addr),(.int .u64 x.load),(.int .u64 x.store),(.bool x.aq),(.bool x.rl)] [(.int .i64 y.hart),(.int .i64 y.at_),(.int .i64 y.kind),(.int .i64 y.pred),(.int .i64 y.succ),(.int .i64 y.pair),(.int .u64 y.addr),(.int .u64 y.load),(.int .u64 y.store),(.bool y.aq),(.bool y.rl)]=some (.bool (aL.beq x y)):=Au (by kernel_rfl) (by kernel_rfl)
theorem yj:vx Tryz.prog 40 (dl .u64) (fun x=>Value.int .u64 x) ey:=⟨fun _=>rfl,fun _ _=>by kernel_rfl,fun _ _=>by kernel_rfl,fun a b h=>by
  have e:=ER h
  subst e
  simp [Instr.sameBits]⟩
theorem oH (l:(List (Int×(List Int)))) (k:Int) (h:jn ey l k=none):wv Tryz.prog 40 24 false (dl .u64) (py (lZ .i64)) l k .nilsl:=Ja (by kernel_rfl) yj .nilsl (fun _=>by kernel_rfl) l k h
theorem oI (l:(List (Int×(List Int)))) (k:Int) {v:(List Int)} (h:jn ey l k=some v):wv Tryz.prog 40 24 false (dl .u64) (py (lZ .i64)) l k ((py (lZ .i64)) v):=Jb (by kernel_rfl) yj l k h
theorem oJ (ks:List Int) (k:Int) {r:Option Nat} (h:dy ey ks k=r):HS Tryz.prog 40 (dl .u64) ks k r:=Jc (by kernel_rfl) yj ks k h
theorem Ez (ks:List Int) (k:Int) (h:dy ey ks k=none):Fh Tryz.prog 40 (dl .u64) ks k none ((ks++[k]).map (dl .u64)):=Jd (by kernel_rfl) yj ks k h
theorem yk (ks:List Int) (k:Int) {i:Nat} (h:dy ey ks k=some i):Fh Tryz.prog 40 (dl .u64) ks k (some i) (ks.map (dl .u64)):=Je (by kernel_rfl) yj (fun _ _=>ER) ks k h
noncomputable abbrev pP:=ft Tryz.prog
noncomputable abbrev sP:=SD Tryz.prog
noncomputable abbrev lP:=jw Tryz.prog
noncomputable abbrev dP:=eg Tryz.prog
abbrev vT:AV:=.v (.bool true)
abbrev vF:AV:=.v (.bool false)
abbrev SC (a b:Bool):Prop:=AV.v (.bool a)=AV.v (.bool b)
abbrev Q1 (a:AV):AV→Prop:=fun x=>x=a
theorem DD {α:Type} {f:α→List AV} {l:List α} (hf:∀ x,(f x).all mS=true:=by exact fun _=>rfl):bh (l.map f)=true:=Ew f l hf
theorem GP {α:Type} {f:α→List AV} {l:List α} {sz:Nat} (hf:∀ x,Nat.beq (f x).length sz=true:=by exact fun _=>rfl):gx sz (l.map f)=true:=Dd f l hf
abbrev eI:Int→List AV:=lZ .i64
abbrev vI (n:Int):AV:=.v (.int .i64 n)
abbrev vU (n:Int):AV:=.v (.int .u64 n)
abbrev pC {ρ:Type} (m:Option ρ) (f:Nat) (xs:List AV) (enc:ρ→AV):Prop:=cP Tryz.prog m f xs enc
abbrev sC {ρ:Type} (m:Option ρ) (f:Nat) (xs:List AV) (o:List Ob) (R:ρ→AV×List Ob):Prop:=cS Tryz.prog m f xs o R
abbrev lC {σ τ:Type} (m:σ→Option (σ⊕τ)) (c:Code) (Sf:σ→St) (out:τ→Ex×St):Prop:=∀ s r,m s=some r→eg Tryz.prog c (Sf s) (rk Sf out r)
abbrev dC {σ τ:Type} (m:σ→Option τ) (c:Code) (Sf:σ→St) (out:τ→Ex×St):Prop:=∀ s r,m s=some r→eg Tryz.prog c (Sf s) (pk out r)
theorem tP {ρ:Type} {m:Option ρ} {enc:ρ→AV} {f:Nat} {args:List AV} (ord:List (Nat×PT)) (T:Tr ρ True) (hT:T.eval=m:=by kernel_rfl) (hB:kD (qT f) ord (aF Tryz.prog f)=true:=by kernel_rfl) (h:(fun r=>JK (jg cfg) (eg Tryz.prog) ord f args r enc T)=(fun r=>T.prop r (fun x=>b9 (enc x) (enc x))):=by kernel_rfl):pC m f args enc:=fun r hm=>ft.ofT (cfg:=cfg) names mixed hB ((congrFun h r).mpr (Tr.holds (fun _=>b9.refl _) T trivial (hT.trans hm)))
theorem tD {ρ:Type} {m:Option ρ} {out:ρ→AV×List Ob} {f:Nat} {args:List AV} {o:List Ob} (ord:List (Nat×PT)) (T:Tr ρ True) (hT:T.eval=m:=by kernel_rfl) (hB:kD (qT f) ord (aF Tryz.prog f)=true:=by kernel_rfl) (h:(fun r=>HV (jg cfg) (eg Tryz.prog) ord f args o r out T)=(fun r=>T.prop r (fun x=>out x=out x)):=by kernel_rfl):sC m f args o out:=fun r hm=>SD.ofT (cfg:=cfg) names mixed hB ((congrFun h r).mpr (Tr.holds (fun _=>rfl) T trivial (hT.trans hm)))
theorem GB {σ τ:Type} {Sf:σ→St} {out:τ→Ex×St}:∀ x,JJ Sf out x
  | .inl _=>rfl
  | .inr _=>rfl
theorem tR {σ τ:Type} {m:σ→Option (σ⊕τ)} {c:Code} {Sf:σ→St} {out:τ→Ex×St} (ord:List (Nat×PT)) (f:Nat) (hne:∀ t,(out t).1≠.nrm) (T:σ→Tr (σ⊕τ) True) (hT:(fun s=>(T s).eval)=m:=by kernel_rfl) (hB:kD (qT f) ord c=true:=by kernel_rfl) (h:(fun s r=>JI (jg cfg) (eg Tryz.prog) ord (qT f) c (Sf s) r Sf out (T s))=(fun s r=>(T s).prop r (JJ Sf out)):=by kernel_rfl):lC m c Sf out:=fun s r hm=>eg.ofL (cfg:=cfg) mixed hne hB ((congrFun (congrFun h s) r).mpr (Tr.holds GB (T s) trivial ((congrFun hT s).trans hm)))
theorem Jg {σ ρ:Type} {m:σ→Option ρ} {c:Code} {Sf:σ→St} {out:ρ→Ex×St} (ord:List (Nat×PT)) (f:Nat) (T:σ→Tr ρ True) (hT:(fun s=>(T s).eval)=m:=by kernel_rfl) (hB:kD (qT f) ord c=true:=by kernel_rfl) (h:(fun s r=>HU (jg cfg) (eg Tryz.prog) ord (qT f) c (Sf s) r out (T s))=(fun s r=>(T s).prop r (fun x=>out x=out x)):=by kernel_rfl):dC m c Sf out:=fun s r hm=>(eg.ofT (cfg:=cfg) mixed hB ((congrFun (congrFun h s) r).mpr (Tr.holds (fun _=>rfl) (T s) trivial ((congrFun hT s).trans hm)))).mono fun _ _ e=>⟨by rw [← e],by rw [← e]⟩
section
variable {ρ:Type} {Γ:Prop}
def oX (pl:br) {c:Code} {σ τ:Type} {step:σ→Option (σ⊕τ)} {Sf:σ→St} {out:τ→Ex×St} (hs:lC step c Sf out) {n:Nat} {s:σ} {t:τ} (h:Γ→A.iter step n s=some t) (r:Tr ρ Γ):Tr ρ Γ:=.o (jw Tryz.prog pl c (Sf s) fun e S2=>e=(out t).1∧S2=(out t).2) (fun g=>jw.iter (cfg:=cfg) Sf out hs n s t (h g)) r
def tX (k:Nat) (W:Wk) (f:Nat) {c:Code} {σ τ:Type} {step:σ→Option (σ⊕τ)} {Sf:σ→St} {out:τ→Ex×St} (hs:lC step c Sf out) {n:Nat} {s:σ} {t:τ} (h:Γ→A.iter step n s=some t) (r:Tr ρ Γ):Tr ρ Γ:=.lp k W l0 (out t).1 (out t).2 (oX (qT f) hs h r)
def oQ {c:Code} {σ τ:Type} {m:σ→Option τ} {Sf:σ→St} {out:τ→Ex×St} (hs:dC m c Sf out) {s:σ} {t:τ} (h:Γ→m s=some t) (r:Tr ρ Γ):Tr ρ Γ:=.o (eg Tryz.prog c (Sf s) fun e S2=>e=(out t).1∧S2=(out t).2) (fun g=>hs s t (h g)) r
def tQ (k:Nat) (W:Wk) {c:Code} {σ τ:Type} {m:σ→Option τ} {Sf:σ→St} {out:τ→Ex×St} (hs:dC m c Sf out) {s:σ} {t:τ} (h:Γ→m s=some t) (r:Tr ρ Γ):Tr ρ Γ:=.lp k W l0 (out t).1 (out t).2 (oQ hs h r)
end

end Go.Proofs.YtomahedcdcnnhaaGreatDoor
