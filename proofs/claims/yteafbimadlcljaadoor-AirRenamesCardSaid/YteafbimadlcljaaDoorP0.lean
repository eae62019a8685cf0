/- What the functions compute, they compute: printed by a program, path by path. No conditions. -/
import Derived.Test.YteafbimadlcljaaDoorProg
import Derived.Test.YteafbimadlcljaaDoorKT
import Derived.Test.YteafbimadlcljaaDoorM1
import Derived.KernelRfl
namespace Go.Proofs.YteafbimadlcljaaDoor
open Go A
set_option linter.unusedVariables false
set_option maxRecDepth 100000
def BG (f:Nat):bA:={ esc:=match f with | 9=>[1,3] | 23=>[3] | 24=>[2] | 35=>[5] | 43=>[8] | 44=>[3,11] | 63=>[3,4] | 83=>[7] | 84=>[9] | 96=>[7] | 107=>[12] | _=>[],ms:=match f with | 15=>[17] | 44=>[22] | _=>[],bx:=match f with | 3=>[1] | 4=>[1,4] | 5=>[6,8,10] | 6=>[2,5] | 7=>[11,15,17] | 8=>[1,2] | 10=>[1] | 11=>[1] | 12=>[2,5] | 14=>[1] | 15=>[3] | 16=>[2,4] | 20=>[3] | 21=>[9] | 29=>[3] | 30=>[9] | 32=>[2,4] | 33=>[2,3] | 34=>[1,2] | 35=>[2,3] | 36=>[2,3] | 37=>[1,3,6] | 40=>[1] | 42=>[3] | 43=>[3,10] | 44=>[1,12] | 50=>[3] | 59=>[1] | 62=>[8,9] | 63=>[8] | 64=>[3] | 66=>[0] | 68=>[1] | 77=>[3,7] | 78=>[1] | 93=>[1] | 94=>[2,5] | 95=>[1] | _=>[],st:=[34,45,46,47,48,49,51,52,53,61,62,63,64,70,71,72,73,75,80,81],fz:=[],dc:=[45,49,70],ow:=match f with | 10=>[26,30,42,59,64,95,129,136,141,147,155] | 44=>[16,21,39,65,72,75,95] | 64=>[] | 73=>[7] | _=>[],oh:=match f with | 73=>[7] | _=>[],cl:=match f with | 10=>[8,13,23,33,34,39,41] | 44=>[2,7,14,15,16,22] | 64=>[9999] | 73=>[] | _=>[],fr:=match f with | 10=>[41] | _=>[],ix:=match f with | 10=>[(26,2),(30,3)] | _=>[] }
def FW (f:Nat):Bool:=!(dV [34,45,46,47,48,49,51,52,53,61,62,63,64,70,71,72,73,75,80,81] f)
noncomputable def cfg:m4:={ P:=Tryd.prog,pure:=FW,pol:=BG }
theorem mixed:cfg.P.follows .mixedOrders=true:=by kernel_rfl
theorem CQ : (cfg.P.funcs.all fun fn => !(fn.name == "runtime.NumGoroutine")) = true := by kernel_rfl
theorem names:jN cfg.P:=yl CQ
def ab.enc (x:ab):List AV:=[.v (.int .i64 x.Op),.v (.int .i64 x.A_),.v (.int .i64 x.B),.v (.int .i64 x.C_),.v (.int .i64 x.D),.v (.int .i64 x.Imm),.v (.int .i64 x.Bin),.v (.int .i64 x.To),.v (.bool x.Shared)]
def bh.enc (x:bh):List AV:=[.v (.int .i64 x.Regs),.sl (x.Steps.map ab.enc)]
theorem ao (x y:ab):co Tryd.prog .eql 33 [(.int .i64 x.Op),(.int .i64 x.A_),(.int .i64 x.B),(.int .i64 x.C_),(.int .i64 x.D),(.int .i64 x.Imm),(.int .i64 x.Bin),(.int .i64 x.To),(.bool x.Shared)] [(.int .i64 y.Op),(.int .i64 y.A_),(.int .i64 y.B),(.int .i64 y.C_),(.int .i64 y.D),(.int .i64 y.Imm),(.int .i64 y.Bin),(.int .i64 y.To),(.bool y.Shared)]=some (.bool (ab.beq x y)):=BC (by kernel_rfl) (by kernel_rfl)
theorem eO (x y:ab):co Tryd.prog .neq 33 [(.int .i64 x.Op),(.int .i64 x.A_),(.int .i64 x.B),(.int .i64 x.C_),(.int .i64 x.D),(.int .i64 x.Imm),(.int .i64 x.Bin),(.int .i64 x.To),(.bool x.Shared)] [(.int .i64 y.Op),(.int .i64 y.A_),(.int .i64 y.B),(.int .i64 y.C_),(.int .i64 y.D),(.int .i64 y.Imm),(.int .i64 y.Bin),(.int .i64 y.To),(.bool y.Shared)]=some (.bool (!ab.beq x y)):=BD (by kernel_rfl) (by kernel_rfl)
theorem El:Ak Tryd.prog 3 (bN .i64) (fun x=>Value.int .i64 x) bK:=⟨fun _=>rfl,fun _ _=>by kernel_rfl,fun _ _=>by kernel_rfl,fun a b h=>by
  have e:=Dj h
  subst e
  simp [Instr.sameBits]⟩
theorem ru (l:(List (Int×Int))) (k:Int):BE Tryd.prog 3 3 (bN .i64) bK (bN .i64) 0 l k:=CK (by kernel_rfl) El 0 (fun _=>by kernel_rfl) l k
theorem vZ (l:(List (Int×Int))) (k:Int) (v:Int):DO Tryd.prog 3 (bN .i64) bK (bN .i64) l k v:=E7 (by kernel_rfl) El l k v
noncomputable abbrev pP:=di Tryd.prog
noncomputable abbrev sP:=SD Tryd.prog
noncomputable abbrev lP:=gQ Tryd.prog
noncomputable abbrev dP:=dU Tryd.prog
abbrev vT:AV:=.v (.bool true)
abbrev vF:AV:=.v (.bool false)
abbrev Ir (a b:Bool):Prop:=AV.v (.bool a)=AV.v (.bool b)
abbrev G_ (a:AV):AV→Prop:=fun x=>x=a
theorem FX {α:Type} {f:α→List AV} {l:List α} (hf:∀ x,(f x).all jV=true:=by exact fun _=>rfl):bu (l.map f)=true:=zM f l hf
theorem Ha {α:Type} {f:α→List AV} {l:List α} {sz:Nat} (hf:∀ x,Nat.beq (f x).length sz=true:=by exact fun _=>rfl):fE sz (l.map f)=true:=CG f l hf
abbrev eI:Int→List AV:=ae .i64
abbrev vI (n:Int):AV:=.v (.int .i64 n)
abbrev vU (n:Int):AV:=.v (.int .u64 n)
abbrev pC {ρ:Type} (m:Option ρ) (f:Nat) (xs:List AV) (enc:ρ→AV):Prop:=cP Tryd.prog m f xs enc
abbrev sC {ρ:Type} (m:Option ρ) (f:Nat) (xs:List AV) (o:List Ob) (R:ρ→AV×List Ob):Prop:=cS Tryd.prog m f xs o R
abbrev lC {σ τ:Type} (m:σ→Option (σ⊕τ)) (c:Code) (Sf:σ→St) (out:τ→Ex×St):Prop:=∀ s r,m s=some r→dU Tryd.prog c (Sf s) (rk Sf out r)
abbrev dC {σ τ:Type} (m:σ→Option τ) (c:Code) (Sf:σ→St) (out:τ→Ex×St):Prop:=∀ s r,m s=some r→dU Tryd.prog c (Sf s) (pk out r)
theorem tP {ρ:Type} {m:Option ρ} {enc:ρ→AV} {f:Nat} {args:List AV} (ord:List (Nat×PT)) (T:Tr ρ True) (hT:T.eval=m:=by kernel_rfl) (hB:jr (BG f) ord (dw Tryd.prog f)=true:=by kernel_rfl) (h:(fun r=>Ek (gK cfg) (dU Tryd.prog) ord f args r enc T)=(fun r=>T.prop r (fun x=>iT (enc x) (enc x))):=by kernel_rfl):pC m f args enc:=fun r hm=>di.ofT (cfg:=cfg) names mixed hB ((congrFun h r).mpr (Tr.holds (fun _=>iT.refl _) T trivial (hT.trans hm)))
theorem tD {ρ:Type} {m:Option ρ} {out:ρ→AV×List Ob} {f:Nat} {args:List AV} {o:List Ob} (ord:List (Nat×PT)) (T:Tr ρ True) (hT:T.eval=m:=by kernel_rfl) (hB:jr (BG f) ord (dw Tryd.prog f)=true:=by kernel_rfl) (h:(fun r=>CM (gK cfg) (dU Tryd.prog) ord f args o r out T)=(fun r=>T.prop r (fun x=>out x=out x)):=by kernel_rfl):sC m f args o out:=fun r hm=>SD.ofT (cfg:=cfg) names mixed hB ((congrFun h r).mpr (Tr.holds (fun _=>rfl) T trivial (hT.trans hm)))
theorem BH {σ τ:Type} {Sf:σ→St} {out:τ→Ex×St}:∀ x,Ej Sf out x
  | .inl _=>rfl
  | .inr _=>rfl
theorem tR {σ τ:Type} {m:σ→Option (σ⊕τ)} {c:Code} {Sf:σ→St} {out:τ→Ex×St} (ord:List (Nat×PT)) (f:Nat) (hne:∀ t,(out t).1≠.nrm) (T:σ→Tr (σ⊕τ) True) (hT:(fun s=>(T s).eval)=m:=by kernel_rfl) (hB:jr (BG f) ord c=true:=by kernel_rfl) (h:(fun s r=>Ei (gK cfg) (dU Tryd.prog) ord (BG f) c (Sf s) r Sf out (T s))=(fun s r=>(T s).prop r (Ej Sf out)):=by kernel_rfl):lC m c Sf out:=fun s r hm=>dU.ofL (cfg:=cfg) mixed hne hB ((congrFun (congrFun h s) r).mpr (Tr.holds BH (T s) trivial ((congrFun hT s).trans hm)))
section
variable {ρ:Type} {Γ:Prop}
def oX (pl:bA) {c:Code} {σ τ:Type} {step:σ→Option (σ⊕τ)} {Sf:σ→St} {out:τ→Ex×St} (hs:lC step c Sf out) {n:Nat} {s:σ} {t:τ} (h:Γ→A.iter step n s=some t) (r:Tr ρ Γ):Tr ρ Γ:=.o (gQ Tryd.prog pl c (Sf s) fun e S2=>e=(out t).1∧S2=(out t).2) (fun g=>gQ.iter (cfg:=cfg) Sf out hs n s t (h g)) r
def tX (k:Nat) (W:Wk) (f:Nat) {c:Code} {σ τ:Type} {step:σ→Option (σ⊕τ)} {Sf:σ→St} {out:τ→Ex×St} (hs:lC step c Sf out) {n:Nat} {s:σ} {t:τ} (h:Γ→A.iter step n s=some t) (r:Tr ρ Γ):Tr ρ Γ:=.lp k W l0 (out t).1 (out t).2 (oX (BG f) hs h r)
def oQ {c:Code} {σ τ:Type} {m:σ→Option τ} {Sf:σ→St} {out:τ→Ex×St} (hs:dC m c Sf out) {s:σ} {t:τ} (h:Γ→m s=some t) (r:Tr ρ Γ):Tr ρ Γ:=.o (dU Tryd.prog c (Sf s) fun e S2=>e=(out t).1∧S2=(out t).2) (fun g=>hs s t (h g)) r
end

end Go.Proofs.YteafbimadlcljaaDoor
