/- What the functions compute, they compute: printed by a program, path by path. No conditions. -/
import Derived.Test.YtcckeabholabcaaGreatProg
import Derived.Test.YtcckeabholabcaaGreatKT
import Derived.Test.YtcckeabholabcaaGreatM1
import Derived.Test.YtcckeabholabcaaGreatIV2
import Derived.KernelRfl
namespace Go.Proofs.YtcckeabholabcaaGreat
open Go A
set_option linter.unusedVariables false
set_option maxRecDepth 100000
def AD (f:Nat):cm:={ esc:=match f with | 6=>[3] | 8=>[1] | 11=>[1] | 20=>[1] | 26=>[1,3,4] | 47=>[1] | 91=>[7] | 92=>[9] | _=>[],ms:=[],bx:=match f with | 3=>[5,6] | 5=>[2] | 7=>[3] | 9=>[1] | 11=>[5] | 12=>[1,2,3] | 13=>[1] | 15=>[1] | 16=>[1] | 17=>[2] | 18=>[2] | 20=>[6,9] | 21=>[1,7] | 22=>[2,3] | 23=>[2,3] | 24=>[2,3,4] | 27=>[4] | 28=>[7] | 30=>[7,9] | 31=>[8] | 33=>[6] | 34=>[1,6] | 35=>[3,7] | 36=>[1] | 37=>[2,3] | 38=>[1,2] | 45=>[1] | 49=>[1] | 51=>[8,9] | 52=>[2,3,5,6] | 56=>[2] | 58=>[1,4,5] | 60=>[1] | 61=>[1] | 62=>[1] | 63=>[1,2] | 64=>[1] | 65=>[2,3] | 67=>[1,2] | 70=>[2] | 76=>[1,2] | 80=>[1,2] | 84=>[2] | _=>[],st:=[26,29,42,46,47,57,74,78,85,89,90,91,92,93,94,96,97,100,102,103,104,105],fz:=match f with | 63=>[6,10,14] | _=>[] }
def Kl (f:Nat):Bool:=!(fa [26,29,42,46,47,57,74,78,85,89,90,91,92,93,94,96,97,100,102,103,104,105] f)
noncomputable def cfg:qG:={ P:=Tryz.prog,pure:=Kl,pol:=AD }
theorem mixed:cfg.P.follows .mixedOrders=true:=by kernel_rfl
theorem Ju : (cfg.P.funcs.all fun fn => !(fn.name == "runtime.NumGoroutine")) = true := by kernel_rfl
theorem names:m5 cfg.P:=wR Ju
def Cell.enc (x:Cell):List AV:=[.v (.int .u64 x.Addr),.v (.int .u64 x.Value)]
def Deps.enc (x:Deps):List AV:=[.sl (x.Addr.map (ac .i64)),.sl (x.Data.map (ac .i64)),.sl (x.Way.map (ac .i64))]
def Event.enc (x:Event):List AV:=[.v (.int .i64 x.Hart),.v (.int .i64 x.At),.v (.int .i64 x.Kind),.v (.int .u64 x.Addr),.v (.int .u64 x.Load),.v (.int .u64 x.Store),.v (.bool x.Aq),.v (.bool x.Rl),.v (.int .i64 x.Pred),.v (.int .i64 x.Succ),.v (.int .i64 x.Pair),.sl (x.Deps.Addr.map (ac .i64)),.sl (x.Deps.Data.map (ac .i64)),.sl (x.Deps.Way.map (ac .i64))]
def ai.enc (x:ai):List AV:=[.sl (x.First.map Cell.enc),.sl (x.Harts.map (gf Event.enc)),.sl (x.From.map (ac .i64)),.sl (x.Order.map (ac .i64))]
def aL.enc (x:aL):List AV:=[.v (.int .i64 x.hart),.v (.int .i64 x.at_),.v (.int .i64 x.kind),.v (.int .i64 x.pred),.v (.int .i64 x.succ),.v (.int .i64 x.pair),.v (.int .u64 x.addr),.v (.int .u64 x.load),.v (.int .u64 x.store),.v (.bool x.aq),.v (.bool x.rl)]
theorem jr (x y:Cell):lB Tryz.prog .neq 43 [(.int .u64 x.Addr),(.int .u64 x.Value)] [(.int .u64 y.Addr),(.int .u64 y.Value)]=some (.bool (!Cell.beq x y)):=Fw (by kernel_rfl) (by kernel_rfl)
theorem kC (x y:aL):lB Tryz.prog .eql 97 [(.int .i64 x.hart),(.int .i64 x.at_),(.int .i64 x.kind),(.int .i64 x.pred),(.int .i64 x.succ),(.int .i64 x.pair),(.int .u64 x.addr),(.int .u64 x.load),(.int .u64 x.store),(.bool x.aq),(.bool x.rl)] [(.int .i64 y.hart),(.int .i64 y.at_),(.int .i64 y.kind),(.int .i64 y.pred),(.int .i64 y.succ),(.int .i64 y.pair),(.int .u64 y.addr),(.int .u64 y.load),(.int .u64 y.store),(.bool y.aq),(.bool y.rl)]=some (.bool (aL.beq x y)):=Fv (by kernel_rfl) (by kernel_rfl)
theorem GT:Ef Tryz.prog 27 (ft .u64) (fun x=>Value.int .u64 x) dH:=⟨fun _=>rfl,fun _ _=>by kernel_rfl,fun _ _=>by kernel_rfl,fun a b h=>by
  have e:=vb h
  subst e
  simp [Instr.sameBits]⟩
theorem Fz (l:(List (Int×Int))) (k:Int):H1 Tryz.prog 27 27 (ft .u64) dH (ft .u64) 0 l k:=Jo (by kernel_rfl) GT 0 (fun _=>by kernel_rfl) l k
theorem zC (l:(List (Int×Int))) (k:Int) (v:Int):H2 Tryz.prog 27 (ft .u64) dH (ft .u64) l k v:=Jp (by kernel_rfl) GT l k v
noncomputable abbrev pP:=fD Tryz.prog
noncomputable abbrev sP:=SD Tryz.prog
noncomputable abbrev lP:=jG Tryz.prog
noncomputable abbrev dP:=eW Tryz.prog
abbrev vT:AV:=.v (.bool true)
abbrev vF:AV:=.v (.bool false)
abbrev Rb (a b:Bool):Prop:=AV.v (.bool a)=AV.v (.bool b)
abbrev Rc (a:AV):AV→Prop:=fun x=>x=a
theorem GU {α:Type} {f:α→List AV} {l:List α} (hf:∀ x,(f x).all mG=true:=by exact fun _=>rfl):cN (l.map f)=true:=Dv f l hf
theorem H5 {α:Type} {f:α→List AV} {l:List α} {sz:Nat} (hf:∀ x,Nat.beq (f x).length sz=true:=by exact fun _=>rfl):kn sz (l.map f)=true:=GJ f l hf
abbrev eI:Int→List AV:=ac .i64
abbrev vI (n:Int):AV:=.v (.int .i64 n)
abbrev vU (n:Int):AV:=.v (.int .u64 n)
abbrev pC {ρ:Type} (m:Option ρ) (f:Nat) (xs:List AV) (enc:ρ→AV):Prop:=cP Tryz.prog m f xs enc
abbrev sC {ρ:Type} (m:Option ρ) (f:Nat) (xs:List AV) (o:List Ob) (R:ρ→AV×List Ob):Prop:=cS Tryz.prog m f xs o R
abbrev lC {σ τ:Type} (m:σ→Option (σ⊕τ)) (c:Code) (Sf:σ→St) (out:τ→Ex×St):Prop:=∀ s r,m s=some r→eW Tryz.prog c (Sf s) (rk Sf out r)
abbrev dC {σ τ:Type} (m:σ→Option τ) (c:Code) (Sf:σ→St) (out:τ→Ex×St):Prop:=∀ s r,m s=some r→eW Tryz.prog c (Sf s) (pk out r)
theorem tP {ρ:Type} {m:Option ρ} {enc:ρ→AV} {f:Nat} {args:List AV} (ord:List (Nat×PT)) (T:Tr ρ True) (hT:T.eval=m:=by kernel_rfl) (hB:ordB (AD f) ord (aS Tryz.prog f)=true:=by kernel_rfl) (h:(fun r=>IA (jq cfg) (eW Tryz.prog) ord f args r enc T)=(fun r=>T.prop r (fun x=>dm (enc x) (enc x))):=by kernel_rfl):pC m f args enc:=fun r hm=>fD.ofT (cfg:=cfg) names mixed hB ((congrFun h r).mpr (Tr.holds (fun _=>dm.refl _) T trivial (hT.trans hm)))
theorem tD {ρ:Type} {m:Option ρ} {out:ρ→AV×List Ob} {f:Nat} {args:List AV} {o:List Ob} (ord:List (Nat×PT)) (T:Tr ρ True) (hT:T.eval=m:=by kernel_rfl) (hB:ordB (AD f) ord (aS Tryz.prog f)=true:=by kernel_rfl) (h:(fun r=>GP (jq cfg) (eW Tryz.prog) ord f args o r out T)=(fun r=>T.prop r (fun x=>out x=out x)):=by kernel_rfl):sC m f args o out:=fun r hm=>SD.ofT (cfg:=cfg) names mixed hB ((congrFun h r).mpr (Tr.holds (fun _=>rfl) T trivial (hT.trans hm)))
theorem FA {σ τ:Type} {Sf:σ→St} {out:τ→Ex×St}:∀ x,Iz Sf out x
  | .inl _=>rfl
  | .inr _=>rfl
theorem tR {σ τ:Type} {m:σ→Option (σ⊕τ)} {c:Code} {Sf:σ→St} {out:τ→Ex×St} (ord:List (Nat×PT)) (f:Nat) (hne:∀ t,(out t).1≠.nrm) (T:σ→Tr (σ⊕τ) True) (hT:(fun s=>(T s).eval)=m:=by kernel_rfl) (hB:ordB (AD f) ord c=true:=by kernel_rfl) (h:(fun s r=>Iy (jq cfg) (eW Tryz.prog) ord (AD f) c (Sf s) r Sf out (T s))=(fun s r=>(T s).prop r (Iz Sf out)):=by kernel_rfl):lC m c Sf out:=fun s r hm=>eW.ofL (cfg:=cfg) mixed hne hB ((congrFun (congrFun h s) r).mpr (Tr.holds FA (T s) trivial ((congrFun hT s).trans hm)))
theorem Dw {σ ρ:Type} {m:σ→Option ρ} {c:Code} {Sf:σ→St} {out:ρ→Ex×St} (ord:List (Nat×PT)) (f:Nat) (T:σ→Tr ρ True) (hT:(fun s=>(T s).eval)=m:=by kernel_rfl) (hB:ordB (AD f) ord c=true:=by kernel_rfl) (h:(fun s r=>GO (jq cfg) (eW Tryz.prog) ord (AD f) c (Sf s) r out (T s))=(fun s r=>(T s).prop r (fun x=>out x=out x)):=by kernel_rfl):dC m c Sf out:=fun s r hm=>(eW.ofT (cfg:=cfg) mixed hB ((congrFun (congrFun h s) r).mpr (Tr.holds (fun _=>rfl) (T s) trivial ((congrFun hT s).trans hm)))).mono fun _ _ e=>⟨by rw [← e],by rw [← e]⟩
section
variable {ρ:Type} {Γ:Prop}
def oX (pl:cm) {c:Code} {σ τ:Type} {step:σ→Option (σ⊕τ)} {Sf:σ→St} {out:τ→Ex×St} (hs:lC step c Sf out) {n:Nat} {s:σ} {t:τ} (h:Γ→A.iter step n s=some t) (r:Tr ρ Γ):Tr ρ Γ:=.o (jG Tryz.prog pl c (Sf s) fun e S2=>e=(out t).1∧S2=(out t).2) (fun g=>jG.iter (cfg:=cfg) Sf out hs n s t (h g)) r
def tX (k:Nat) (W:Wk) (f:Nat) {c:Code} {σ τ:Type} {step:σ→Option (σ⊕τ)} {Sf:σ→St} {out:τ→Ex×St} (hs:lC step c Sf out) {n:Nat} {s:σ} {t:τ} (h:Γ→A.iter step n s=some t) (r:Tr ρ Γ):Tr ρ Γ:=.lp k W l0 (out t).1 (out t).2 (oX (AD f) hs h r)
def oQ {c:Code} {σ τ:Type} {m:σ→Option τ} {Sf:σ→St} {out:τ→Ex×St} (hs:dC m c Sf out) {s:σ} {t:τ} (h:Γ→m s=some t) (r:Tr ρ Γ):Tr ρ Γ:=.o (eW Tryz.prog c (Sf s) fun e S2=>e=(out t).1∧S2=(out t).2) (fun g=>hs s t (h g)) r
def tQ (k:Nat) (W:Wk) {c:Code} {σ τ:Type} {m:σ→Option τ} {Sf:σ→St} {out:τ→Ex×St} (hs:dC m c Sf out) {s:σ} {t:τ} (h:Γ→m s=some t) (r:Tr ρ Γ):Tr ρ Γ:=.lp k W l0 (out t).1 (out t).2 (oQ hs h r)
end

end Go.Proofs.YtcckeabholabcaaGreat
