/- What the functions compute, they compute: printed by a program, path by path. No conditions. -/
import Derived.Test.YtaekcekecdocnaaProg
import Derived.Test.YtaekcekecdocnaaKT
import Derived.Test.YtaekcekecdocnaaM1
import Derived.KernelRfl
namespace Go.Proofs.Ytaekcekecdocnaa
open Go A
set_option linter.unusedVariables false
set_option maxRecDepth 100000
def wM (f:Nat):aD:={ esc:=match f with | 7=>[29] | 10=>[45] | 11=>[18] | 19=>[6] | 22=>[6,13] | 25=>[3,4] | 28=>[3] | 32=>[1,3] | 41=>[3,4,5] | 45=>[6] | 49=>[4] | 52=>[1,3] | 60=>[8] | 61=>[3,11] | 71=>[2,5] | 100=>[7] | 101=>[9] | _=>[],ms:=[],bx:=match f with | 3=>[5,8,12,15,22] | 4=>[10,13] | 5=>[1,3] | 7=>[8] | 8=>[2] | 9=>[4,9] | 10=>[4] | 22=>[2,4,9,10,16,17] | 23=>[0] | 24=>[1,3] | 25=>[2] | 26=>[1] | 28=>[1] | 29=>[2,3] | 31=>[1] | 36=>[1] | 37=>[0] | 45=>[8] | 47=>[3] | 48=>[2,4] | 54=>[1] | 55=>[1] | 59=>[3] | 60=>[3,10] | 61=>[1,12] | 62=>[3] | 72=>[8] | 79=>[2] | 81=>[5] | 82=>[2,5] | 86=>[1] | _=>[],st:=[],fz:=[] }
def zb (f:Nat):Bool:=!(bh [] f)
noncomputable def cfg:iU:={ P:=Try.prog,pure:=zb,pol:=wM }
theorem mixed:cfg.P.follows .mixedOrders=true:=by kernel_rfl
theorem wN : (cfg.P.funcs.all fun fn => !(fn.name == "runtime.NumGoroutine")) = true := by kernel_rfl
theorem names:fP cfg.P:=si wN
def Touch.enc (x:Touch):List AV:=[.v (.int .i64 x.Hart),.v (.int .i64 x.At),.v (.int .i64 x.Addr),.v (.bool x.Loads),.v (.bool x.Stores),.v (.int .i64 x.Was),.v (.int .i64 x.Now),.v (.bool x.Shared)]
def jS.enc (x:jS):List AV:=[.v (.int .i64 x.Op),.v (.int .i64 x.A_),.v (.int .i64 x.B),.v (.int .i64 x.C_),.v (.int .i64 x.D),.v (.int .i64 x.Imm),.v (.int .i64 x.Bin),.v (.int .i64 x.To),.v (.bool x.Shared)]
def zB.enc (x:zB):List AV:=[.v (.int .i64 x.Regs),.sl (x.Steps.map jS.enc)]
def bU.enc (x:bU):List AV:=[.v (.int .i64 x.code.Regs),.sl (x.code.Steps.map jS.enc),.sl (x.regs.map (vp .i64)),.v (.int .i64 x.at_),.v (.bool x.ended),.v (.bool x.broken),.v (.int .i64 x.with_)]
def cT.enc (x:cT):List AV:=[.sl (x.harts.map bU.enc),.sl (x.words.map (vp .i64))]
noncomputable abbrev pP:=bW Try.prog
noncomputable abbrev sP:=SD Try.prog
noncomputable abbrev lP:=dW Try.prog
noncomputable abbrev dP:=cf Try.prog
abbrev vT:AV:=.v (.bool true)
abbrev vF:AV:=.v (.bool false)
abbrev z8 (a b:Bool):Prop:=AV.v (.bool a)=AV.v (.bool b)
abbrev z4 (a:AV):AV→Prop:=fun x=>x=a
abbrev eI:Int→List AV:=vp .i64
abbrev vI (n:Int):AV:=.v (.int .i64 n)
abbrev vU (n:Int):AV:=.v (.int .u64 n)
abbrev pC {ρ:Type} (m:Option ρ) (f:Nat) (xs:List AV) (enc:ρ→AV):Prop:=cP Try.prog m f xs enc
abbrev sC {ρ:Type} (m:Option ρ) (f:Nat) (xs:List AV) (o:List Ob) (R:ρ→AV×List Ob):Prop:=cS Try.prog m f xs o R
abbrev lC {σ τ:Type} (m:σ→Option (σ⊕τ)) (c:Code) (Sf:σ→St) (out:τ→Ex×St):Prop:=∀ s r,m s=some r→cf Try.prog c (Sf s) (rk Sf out r)
abbrev dC {σ τ:Type} (m:σ→Option τ) (c:Code) (Sf:σ→St) (out:τ→Ex×St):Prop:=∀ s r,m s=some r→cf Try.prog c (Sf s) (pk out r)
theorem tP {ρ:Type} {m:Option ρ} {enc:ρ→AV} {f:Nat} {args:List AV} (ord:List (Nat×PT)) (T:Tr ρ True) (hT:T.eval=m:=by kernel_rfl) (hB:fG (wM f) ord (iD Try.prog f)=true:=by kernel_rfl) (h:(fun r=>xV (ef cfg) (cf Try.prog) ord f args r enc T)=(fun r=>T.prop r (fun x=>iB (enc x) (enc x))):=by kernel_rfl):pC m f args enc:=fun r hm=>bW.ofT (cfg:=cfg) names mixed hB ((congrFun h r).mpr (Tr.holds (fun _=>iB.refl _) T trivial (hT.trans hm)))
theorem vw {σ τ:Type} {Sf:σ→St} {out:τ→Ex×St}:∀ x,xU Sf out x
  | .inl _=>rfl
  | .inr _=>rfl
theorem tR {σ τ:Type} {m:σ→Option (σ⊕τ)} {c:Code} {Sf:σ→St} {out:τ→Ex×St} (ord:List (Nat×PT)) (f:Nat) (hne:∀ t,(out t).1≠.nrm) (T:σ→Tr (σ⊕τ) True) (hT:(fun s=>(T s).eval)=m:=by kernel_rfl) (hB:fG (wM f) ord c=true:=by kernel_rfl) (h:(fun s r=>xT (ef cfg) (cf Try.prog) ord (wM f) c (Sf s) r Sf out (T s))=(fun s r=>(T s).prop r (xU Sf out)):=by kernel_rfl):lC m c Sf out:=fun s r hm=>cf.ofL (cfg:=cfg) mixed hne hB ((congrFun (congrFun h s) r).mpr (Tr.holds vw (T s) trivial ((congrFun hT s).trans hm)))
section
variable {ρ:Type} {Γ:Prop}
def oX (pl:aD) {c:Code} {σ τ:Type} {step:σ→Option (σ⊕τ)} {Sf:σ→St} {out:τ→Ex×St} (hs:lC step c Sf out) {n:Nat} {s:σ} {t:τ} (h:Γ→A.iter step n s=some t) (r:Tr ρ Γ):Tr ρ Γ:=.o (dW Try.prog pl c (Sf s) fun e S2=>e=(out t).1∧S2=(out t).2) (fun g=>dW.iter (cfg:=cfg) Sf out hs n s t (h g)) r
def tX (k:Nat) (W:Wk) (f:Nat) {c:Code} {σ τ:Type} {step:σ→Option (σ⊕τ)} {Sf:σ→St} {out:τ→Ex×St} (hs:lC step c Sf out) {n:Nat} {s:σ} {t:τ} (h:Γ→A.iter step n s=some t) (r:Tr ρ Γ):Tr ρ Γ:=.lp k W l0 (out t).1 (out t).2 (oX (wM f) hs h r)
end

end Go.Proofs.Ytaekcekecdocnaa
