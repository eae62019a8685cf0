/- What the functions compute, they compute: printed by a program, path by path. No conditions. -/
import Derived.Test.YtnmmknnnggcijaaDoorProg
import Derived.Test.YtnmmknnnggcijaaDoorKT
import Derived.Test.YtnmmknnnggcijaaDoorM1
import Derived.KernelRfl
namespace Go.Proofs.YtnmmknnnggcijaaDoor
open Go A
set_option linter.unusedVariables false
set_option maxRecDepth 100000
def yN (f:Nat):bi:={ esc:=match f with | 45=>[5] | 46=>[7] | 65=>[12] | _=>[],ms:=[],bx:=match f with | 4=>[7,9,13] | 5=>[1,3,5,6] | 8=>[7] | 11=>[2] | 14=>[8,11,12,14] | 15=>[1,2] | 16=>[1,4,5] | 17=>[1] | 18=>[1] | 19=>[2,3] | 20=>[1] | 21=>[1] | 23=>[2,3,5,6] | 24=>[1,2] | 28=>[1,2] | 37=>[1,2] | _=>[],st:=[32,35,44,46,64,65],fz:=[] }
def E9 (f:Nat):Bool:=!(dQ [32,35,44,46,64,65] f)
noncomputable def cfg:m7:={ P:=Tryd.prog,pure:=E9,pol:=yN }
theorem mixed:cfg.P.follows .mixedOrders=true:=by kernel_rfl
theorem CI : (cfg.P.funcs.all fun fn => !(fn.name == "runtime.NumGoroutine")) = true := by kernel_rfl
theorem names:jS cfg.P:=yv CI
def Ask.enc (x:Ask):List AV:=[.v (.int .i64 x.Kind),.v (.int .u64 x.Addr),.v (.int .u64 x.Value),.v (.int .i64 x.Op),.v (.bool x.Aq),.v (.bool x.Rl),.v (.int .i64 x.Pred),.v (.int .i64 x.Succ)]
def Deps.enc (x:Deps):List AV:=[.sl (x.Addr.map (ak .i64)),.sl (x.Data.map (ak .i64)),.sl (x.Way.map (ak .i64))]
def Event.enc (x:Event):List AV:=[.v (.int .i64 x.Hart),.v (.int .i64 x.At),.v (.int .i64 x.Kind),.v (.int .u64 x.Addr),.v (.int .u64 x.Load),.v (.int .u64 x.Store),.v (.bool x.Aq),.v (.bool x.Rl),.v (.int .i64 x.Pred),.v (.int .i64 x.Succ),.v (.int .i64 x.Pair),.sl (x.Deps.Addr.map (ak .i64)),.sl (x.Deps.Data.map (ak .i64)),.sl (x.Deps.Way.map (ak .i64))]
def aP.enc (x:aP):List AV:=[.v (.int .i64 x.hart),.v (.int .i64 x.at_),.v (.int .i64 x.kind),.v (.int .i64 x.pred),.v (.int .i64 x.succ),.v (.int .i64 x.pair),.v (.int .u64 x.addr),.v (.int .u64 x.load),.v (.int .u64 x.store),.v (.bool x.aq),.v (.bool x.rl)]
theorem i1 (x y:aP):qO Tryd.prog .eql 66 [(.int .i64 x.hart),(.int .i64 x.at_),(.int .i64 x.kind),(.int .i64 x.pred),(.int .i64 x.succ),(.int .i64 x.pair),(.int .u64 x.addr),(.int .u64 x.load),(.int .u64 x.store),(.bool x.aq),(.bool x.rl)] [(.int .i64 y.hart),(.int .i64 y.at_),(.int .i64 y.kind),(.int .i64 y.pred),(.int .i64 y.succ),(.int .i64 y.pair),(.int .u64 y.addr),(.int .u64 y.load),(.int .u64 y.store),(.bool y.aq),(.bool y.rl)]=some (.bool (aP.beq x y)):=Bz (by kernel_rfl) (by kernel_rfl)
noncomputable abbrev pP:=dz Tryd.prog
noncomputable abbrev sP:=SD Tryd.prog
noncomputable abbrev lP:=ik Tryd.prog
noncomputable abbrev dP:=dq Tryd.prog
abbrev vT:AV:=.v (.bool true)
abbrev vF:AV:=.v (.bool false)
abbrev HH (a b:Bool):Prop:=AV.v (.bool a)=AV.v (.bool b)
abbrev GI (a:AV):AV→Prop:=fun x=>x=a
theorem EA {α:Type} {f:α→List AV} {l:List α} (hf:∀ x,(f x).all kr=true:=by exact fun _=>rfl):aA (l.map f)=true:=zX f l hf
theorem F8 {α:Type} {f:α→List AV} {l:List α} {sz:Nat} (hf:∀ x,Nat.beq (f x).length sz=true:=by exact fun _=>rfl):mg sz (l.map f)=true:=Cx f l hf
abbrev eI:Int→List AV:=ak .i64
abbrev vI (n:Int):AV:=.v (.int .i64 n)
abbrev vU (n:Int):AV:=.v (.int .u64 n)
abbrev pC {ρ:Type} (m:Option ρ) (f:Nat) (xs:List AV) (enc:ρ→AV):Prop:=cP Tryd.prog m f xs enc
abbrev sC {ρ:Type} (m:Option ρ) (f:Nat) (xs:List AV) (o:List Ob) (R:ρ→AV×List Ob):Prop:=cS Tryd.prog m f xs o R
abbrev lC {σ τ:Type} (m:σ→Option (σ⊕τ)) (c:Code) (Sf:σ→St) (out:τ→Ex×St):Prop:=∀ s r,m s=some r→dq Tryd.prog c (Sf s) (rk Sf out r)
abbrev dC {σ τ:Type} (m:σ→Option τ) (c:Code) (Sf:σ→St) (out:τ→Ex×St):Prop:=∀ s r,m s=some r→dq Tryd.prog c (Sf s) (pk out r)
theorem tP {ρ:Type} {m:Option ρ} {enc:ρ→AV} {f:Nat} {args:List AV} (ord:List (Nat×PT)) (T:Tr ρ True) (hT:T.eval=m:=by kernel_rfl) (hB:i_ (yN f) ord (fI Tryd.prog f)=true:=by kernel_rfl) (h:(fun r=>DR (gF cfg) (dq Tryd.prog) ord f args r enc T)=(fun r=>T.prop r (fun x=>bB (enc x) (enc x))):=by kernel_rfl):pC m f args enc:=fun r hm=>dz.ofT (cfg:=cfg) names mixed hB ((congrFun h r).mpr (Tr.holds (fun _=>bB.refl _) T trivial (hT.trans hm)))
theorem v6 {ρ:Type} {m:Option ρ} {out:ρ→AV×List Ob} {f:Nat} {args:List AV} {o:List Ob} (ord:List (Nat×PT)) (T:Tr ρ True) (hT:T.eval=m:=by kernel_rfl) (hB:i_ (yN f) ord (fI Tryd.prog f)=true:=by kernel_rfl) (h:(fun r=>AF (gF cfg) (dq Tryd.prog) ord f args o r out T)=(fun r=>T.prop r (fun x=>out x=out x)):=by kernel_rfl):sC m f args o out:=fun r hm=>SD.ofTs (cfg:=cfg) names mixed hB ((congrFun h r).mpr (Tr.holds (fun _=>rfl) T trivial (hT.trans hm)))
theorem BC {σ τ:Type} {Sf:σ→St} {out:τ→Ex×St}:∀ x,DO Sf out x
  | .inl _=>rfl
  | .inr _=>rfl
theorem tR {σ τ:Type} {m:σ→Option (σ⊕τ)} {c:Code} {Sf:σ→St} {out:τ→Ex×St} (ord:List (Nat×PT)) (f:Nat) (hne:∀ t,(out t).1≠.nrm) (T:σ→Tr (σ⊕τ) True) (hT:(fun s=>(T s).eval)=m:=by kernel_rfl) (hB:i_ (yN f) ord c=true:=by kernel_rfl) (h:(fun s r=>DN (gF cfg) (dq Tryd.prog) ord (yN f) c (Sf s) r Sf out (T s))=(fun s r=>(T s).prop r (DO Sf out)):=by kernel_rfl):lC m c Sf out:=fun s r hm=>dq.ofL (cfg:=cfg) mixed hne hB ((congrFun (congrFun h s) r).mpr (Tr.holds BC (T s) trivial ((congrFun hT s).trans hm)))
theorem xp {σ ρ:Type} {m:σ→Option ρ} {c:Code} {Sf:σ→St} {out:ρ→Ex×St} (ord:List (Nat×PT)) (f:Nat) (T:σ→Tr ρ True) (hT:(fun s=>(T s).eval)=m:=by kernel_rfl) (hB:i_ (yN f) ord c=true:=by kernel_rfl) (h:(fun s r=>CF (gF cfg) (dq Tryd.prog) ord (yN f) c (Sf s) r out (T s))=(fun s r=>(T s).prop r (fun x=>out x=out x)):=by kernel_rfl):dC m c Sf out:=fun s r hm=>(dq.ofT (cfg:=cfg) mixed hB ((congrFun (congrFun h s) r).mpr (Tr.holds (fun _=>rfl) (T s) trivial ((congrFun hT s).trans hm)))).mono fun _ _ e=>⟨by rw [← e],by rw [← e]⟩
section
variable {ρ:Type} {Γ:Prop}
def oX (pl:bi) {c:Code} {σ τ:Type} {step:σ→Option (σ⊕τ)} {Sf:σ→St} {out:τ→Ex×St} (hs:lC step c Sf out) {n:Nat} {s:σ} {t:τ} (h:Γ→A.iter step n s=some t) (r:Tr ρ Γ):Tr ρ Γ:=.o (ik Tryd.prog pl c (Sf s) fun e S2=>e=(out t).1∧S2=(out t).2) (fun g=>ik.iter (cfg:=cfg) Sf out hs n s t (h g)) r
def tX (k:Nat) (W:Wk) (f:Nat) {c:Code} {σ τ:Type} {step:σ→Option (σ⊕τ)} {Sf:σ→St} {out:τ→Ex×St} (hs:lC step c Sf out) {n:Nat} {s:σ} {t:τ} (h:Γ→A.iter step n s=some t) (r:Tr ρ Γ):Tr ρ Γ:=.lp k W l0 (out t).1 (out t).2 (oX (yN f) hs h r)
def oQ {c:Code} {σ τ:Type} {m:σ→Option τ} {Sf:σ→St} {out:τ→Ex×St} (hs:dC m c Sf out) {s:σ} {t:τ} (h:Γ→m s=some t) (r:Tr ρ Γ):Tr ρ Γ:=.o (dq Tryd.prog c (Sf s) fun e S2=>e=(out t).1∧S2=(out t).2) (fun g=>hs s t (h g)) r
def tQ (k:Nat) (W:Wk) {c:Code} {σ τ:Type} {m:σ→Option τ} {Sf:σ→St} {out:τ→Ex×St} (hs:dC m c Sf out) {s:σ} {t:τ} (h:Γ→m s=some t) (r:Tr ρ Γ):Tr ρ Γ:=.lp k W l0 (out t).1 (out t).2 (oQ hs h r)
end

end Go.Proofs.YtnmmknnnggcijaaDoor
