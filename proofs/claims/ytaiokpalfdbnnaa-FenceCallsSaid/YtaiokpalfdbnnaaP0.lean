/- What the functions compute, they compute: printed by a program, path by path. No conditions. -/
import Derived.Test.YtaiokpalfdbnnaaProg
import Derived.Test.YtaiokpalfdbnnaaKT
import Derived.Test.YtaiokpalfdbnnaaM1
import Derived.KernelRfl
namespace Go.Proofs.Ytaiokpalfdbnnaa
open Go A
set_option linter.unusedVariables false
set_option maxRecDepth 100000
def Fi (f:Nat):bK:={ esc:=match f with | 11=>[1] | 13=>[4] | 14=>[25] | 38=>[1,3] | 39=>[3,8] | 48=>[17] | 49=>[10] | 61=>[8] | 62=>[3,11] | 94=>[7] | 95=>[9] | _=>[],ms:=match f with | 19=>[15] | 42=>[15] | 62=>[22] | _=>[],bx:=match f with | 3=>[11,13,15,26,30] | 4=>[1,3,5,7,9] | 5=>[1,6,8] | 6=>[1,2,4,6] | 7=>[1,3,5,7,9,11,13] | 8=>[1,2,4,5] | 9=>[2] | 10=>[1] | 11=>[2] | 12=>[1,2,4] | 13=>[1,2,5] | 16=>[4,9] | 17=>[2,3] | 18=>[1,4] | 19=>[1,5] | 20=>[1] | 21=>[1] | 22=>[1] | 23=>[1,4] | 24=>[1] | 27=>[1] | 28=>[1,2] | 29=>[1,2,4,8] | 30=>[1,2,4,7] | 31=>[1,2] | 32=>[1] | 33=>[1] | 34=>[1] | 35=>[1] | 36=>[3,7] | 37=>[1] | 39=>[2,4] | 41=>[1] | 42=>[1] | 43=>[1] | 44=>[6] | 47=>[1] | 48=>[5] | 49=>[4,9] | 51=>[2,5] | 53=>[3,6,10,12] | 54=>[1] | 55=>[1] | 57=>[1] | 58=>[1] | 60=>[3] | 61=>[3,10] | 62=>[1,12] | 63=>[7] | 64=>[3] | 65=>[3] | 66=>[2,5] | 68=>[3] | 72=>[7] | 78=>[1] | 82=>[1] | _=>[],st:=[28,32,39,40,44,45,46,52,63,64,67,69,74,76,77,79,80,81,83,85,86,87,89,90,92],fz:=match f with | 29=>[44] | 30=>[16,20,47] | 31=>[34] | _=>[],dc:=[76,77],ow:=match f with | 3=>[] | 13=>[] | 14=>[] | 37=>[18,23,34,40,70,81,93,110,134,142] | 48=>[] | 62=>[16,21,39,65,72,75,95] | 73=>[] | 83=>[7] | _=>[],oh:=match f with | 37=>[142] | 83=>[7] | _=>[],cl:=match f with | 3=>[9999] | 13=>[9999] | 14=>[9999] | 37=>[2,9,10,18,19,23,24,32,9999] | 48=>[9999] | 62=>[2,7,14,15,16,22] | 73=>[9999] | 83=>[] | _=>[],ix:=match f with | 13=>[(4,1)] | _=>[],nn:=match f with | 37=>[22,78,80] | _=>[],pk:=match f with | 37=>[35,71] | _=>[],nw:=match f with | 37=>[18] | _=>[] }
def J0 (f:Nat):Bool:=!(cV [28,32,39,40,44,45,46,52,63,64,67,69,74,76,77,79,80,81,83,85,86,87,89,90,92] f)
noncomputable def cfg:pZ:={ P:=Try.prog,pure:=J0,pol:=Fi }
theorem mixed:cfg.P.follows .mixedOrders=true:=by kernel_rfl
theorem GA : (cfg.P.funcs.all fun fn => !(fn.name == "runtime.NumGoroutine")) = true := by kernel_rfl
theorem names:lW cfg.P:=Bv GA
def ab.enc (x:ab):List AV:=[.v (.int .i64 x.Op),.v (.int .i64 x.A_),.v (.int .i64 x.B),.v (.int .i64 x.C_),.v (.int .i64 x.D),.v (.int .i64 x.Imm),.v (.int .i64 x.Bin),.v (.int .i64 x.To),.v (.bool x.Shared)]
def aj.enc (x:aj):List AV:=[.v (.int .i64 x.Regs),.sl (x.Steps.map ab.enc)]
theorem ap (x y:ab):bE Try.prog .eql 57 [(.int .i64 x.Op),(.int .i64 x.A_),(.int .i64 x.B),(.int .i64 x.C_),(.int .i64 x.D),(.int .i64 x.Imm),(.int .i64 x.Bin),(.int .i64 x.To),(.bool x.Shared)] [(.int .i64 y.Op),(.int .i64 y.A_),(.int .i64 y.B),(.int .i64 y.C_),(.int .i64 y.D),(.int .i64 y.Imm),(.int .i64 y.Bin),(.int .i64 y.To),(.bool y.Shared)]=some (.bool (ab.beq x y)):=Fe (by kernel_rfl) (by kernel_rfl)
theorem au (x y:ab):bE Try.prog .neq 57 [(.int .i64 x.Op),(.int .i64 x.A_),(.int .i64 x.B),(.int .i64 x.C_),(.int .i64 x.D),(.int .i64 x.Imm),(.int .i64 x.Bin),(.int .i64 x.To),(.bool x.Shared)] [(.int .i64 y.Op),(.int .i64 y.A_),(.int .i64 y.B),(.int .i64 y.C_),(.int .i64 y.D),(.int .i64 y.Imm),(.int .i64 y.Bin),(.int .i64 y.To),(.bool y.Shared)]=some (.bool (!ab.beq x y)):=Ff (by kernel_rfl) (by kernel_rfl)
noncomputable abbrev pP:=d_ Try.prog
noncomputable abbrev sP:=SD Try.prog
noncomputable abbrev lP:=ja Try.prog
noncomputable abbrev dP:=ey Try.prog
abbrev vT:AV:=.v (.bool true)
abbrev vF:AV:=.v (.bool false)
abbrev Oy (a b:Bool):Prop:=AV.v (.bool a)=AV.v (.bool b)
abbrev MY (a:AV):AV→Prop:=fun x=>x=a
theorem Ak {α:Type} {f:α→List AV} {l:List α} (hf:∀ x,(f x).all kV=true:=by exact fun _=>rfl):aO (l.map f)=true:=Da f l hf
theorem DX {α:Type} {f:α→List AV} {l:List α} {sz:Nat} (hf:∀ x,Nat.beq (f x).length sz=true:=by exact fun _=>rfl):cx sz (l.map f)=true:=lv f l hf
abbrev eI:Int→List AV:=ao .i64
abbrev vI (n:Int):AV:=.v (.int .i64 n)
abbrev vU (n:Int):AV:=.v (.int .u64 n)
abbrev pC {ρ:Type} (m:Option ρ) (f:Nat) (xs:List AV) (enc:ρ→AV):Prop:=cP Try.prog m f xs enc
abbrev sC {ρ:Type} (m:Option ρ) (f:Nat) (xs:List AV) (o:List Ob) (R:ρ→AV×List Ob):Prop:=cS Try.prog m f xs o R
abbrev lC {σ τ:Type} (m:σ→Option (σ⊕τ)) (c:Code) (Sf:σ→St) (out:τ→Ex×St):Prop:=∀ s r,m s=some r→ey Try.prog c (Sf s) (rk Sf out r)
abbrev dC {σ τ:Type} (m:σ→Option τ) (c:Code) (Sf:σ→St) (out:τ→Ex×St):Prop:=∀ s r,m s=some r→ey Try.prog c (Sf s) (pk out r)
theorem tP {ρ:Type} {m:Option ρ} {enc:ρ→AV} {f:Nat} {args:List AV} (ord:List (Nat×PT)) (T:Tr ρ True) (hT:T.eval=m:=by kernel_rfl) (hB:lr (Fi f) ord (bz Try.prog f)=true:=by kernel_rfl) (h:(fun r=>Iq (i6 cfg) (ey Try.prog) ord f args r enc T)=(fun r=>T.prop r (fun x=>d8 (enc x) (enc x))):=by kernel_rfl):pC m f args enc:=fun r hm=>d_.ofT (cfg:=cfg) names mixed hB ((congrFun h r).mpr (Tr.holds (fun _=>d8.refl _) T trivial (hT.trans hm)))
theorem tD {ρ:Type} {m:Option ρ} {out:ρ→AV×List Ob} {f:Nat} {args:List AV} {o:List Ob} (ord:List (Nat×PT)) (T:Tr ρ True) (hT:T.eval=m:=by kernel_rfl) (hB:lr (Fi f) ord (bz Try.prog f)=true:=by kernel_rfl) (h:(fun r=>Gx (i6 cfg) (ey Try.prog) ord f args o r out T)=(fun r=>T.prop r (fun x=>out x=out x)):=by kernel_rfl):sC m f args o out:=fun r hm=>SD.ofT (cfg:=cfg) names mixed hB ((congrFun h r).mpr (Tr.holds (fun _=>rfl) T trivial (hT.trans hm)))
theorem Fj {σ τ:Type} {Sf:σ→St} {out:τ→Ex×St}:∀ x,Ip Sf out x
  | .inl _=>rfl
  | .inr _=>rfl
theorem tR {σ τ:Type} {m:σ→Option (σ⊕τ)} {c:Code} {Sf:σ→St} {out:τ→Ex×St} (ord:List (Nat×PT)) (f:Nat) (hne:∀ t,(out t).1≠.nrm) (T:σ→Tr (σ⊕τ) True) (hT:(fun s=>(T s).eval)=m:=by kernel_rfl) (hB:lr (Fi f) ord c=true:=by kernel_rfl) (h:(fun s r=>Io (i6 cfg) (ey Try.prog) ord (Fi f) c (Sf s) r Sf out (T s))=(fun s r=>(T s).prop r (Ip Sf out)):=by kernel_rfl):lC m c Sf out:=fun s r hm=>ey.ofL (cfg:=cfg) mixed hne hB ((congrFun (congrFun h s) r).mpr (Tr.holds Fj (T s) trivial ((congrFun hT s).trans hm)))
section
variable {ρ:Type} {Γ:Prop}
def oX (pl:bK) {c:Code} {σ τ:Type} {step:σ→Option (σ⊕τ)} {Sf:σ→St} {out:τ→Ex×St} (hs:lC step c Sf out) {n:Nat} {s:σ} {t:τ} (h:Γ→A.iter step n s=some t) (r:Tr ρ Γ):Tr ρ Γ:=.o (ja Try.prog pl c (Sf s) fun e S2=>e=(out t).1∧S2=(out t).2) (fun g=>ja.iter (cfg:=cfg) Sf out hs n s t (h g)) r
def tX (k:Nat) (W:Wk) (f:Nat) {c:Code} {σ τ:Type} {step:σ→Option (σ⊕τ)} {Sf:σ→St} {out:τ→Ex×St} (hs:lC step c Sf out) {n:Nat} {s:σ} {t:τ} (h:Γ→A.iter step n s=some t) (r:Tr ρ Γ):Tr ρ Γ:=.lp k W l0 (out t).1 (out t).2 (oX (Fi f) hs h r)
end

end Go.Proofs.Ytaiokpalfdbnnaa
