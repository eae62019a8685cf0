/- What the functions compute, they compute: printed by a program, path by path. No conditions. -/
import Derived.Test.YtcckeabholabcaaProg
import Derived.Test.YtcckeabholabcaaKT
import Derived.Test.YtcckeabholabcaaM1
import Derived.Test.YtcckeabholabcaaIV2
import Derived.Test.YtcckeabholabcaaMZ
import Derived.KernelRfl
namespace Go.Proofs.Ytcckeabholabcaa
open Go A
set_option linter.unusedVariables false
set_option maxRecDepth 100000
def zD (f:Nat):bV:={ esc:=match f with | 10=>[1] | 15=>[1] | 16=>[1] | 22=>[3] | 37=>[1] | 42=>[1,3,4] | 78=>[7] | 79=>[9] | _=>[],ms:=[],bx:=match f with | 3=>[2,6] | 4=>[1,7] | 5=>[3,8,10,11] | 6=>[1] | 7=>[1,8] | 9=>[2] | 15=>[6,9] | 16=>[5] | 17=>[2] | 18=>[1] | 19=>[1,2,3] | 20=>[1] | 21=>[1] | 23=>[2,3] | 24=>[1] | 25=>[2,3,4] | 27=>[2,3] | 29=>[4] | 30=>[7] | 32=>[7,9] | 33=>[8] | 34=>[1,2] | 35=>[1] | 38=>[1,2] | 43=>[2,3] | 45=>[8,9] | 46=>[2,3,5,6] | 50=>[2] | 51=>[1,4,5] | 53=>[1] | 54=>[1] | 55=>[1,2] | 62=>[2] | 66=>[1,2] | 69=>[2] | _=>[],st:=[13,31,36,37,41,42,58,65,68,70,76,77,78,79,80,81,83,84,87,89,90,91,92],fz:=[] }
def Hw (f:Nat):Bool:=!(ep [13,31,36,37,41,42,58,65,68,70,76,77,78,79,80,81,83,84,87,89,90,91,92] f)
noncomputable def cfg:nW:={ P:=Try.prog,pure:=Hw,pol:=zD }
theorem mixed:cfg.P.follows .mixedOrders=true:=by kernel_rfl
theorem GK : (cfg.P.funcs.all fun fn => !(fn.name == "runtime.NumGoroutine")) = true := by kernel_rfl
theorem names:kY cfg.P:=tH GK
def Cell.enc (x:Cell):List AV:=[.v (.int .u64 x.Addr),.v (.int .u64 x.Value)]
def Deps.enc (x:Deps):List AV:=[.sl (x.Addr.map (ac .i64)),.sl (x.Data.map (ac .i64)),.sl (x.Way.map (ac .i64))]
def Event.enc (x:Event):List AV:=[.v (.int .i64 x.Hart),.v (.int .i64 x.At),.v (.int .i64 x.Kind),.v (.int .u64 x.Addr),.v (.int .u64 x.Load),.v (.int .u64 x.Store),.v (.bool x.Aq),.v (.bool x.Rl),.v (.int .i64 x.Pred),.v (.int .i64 x.Succ),.v (.int .i64 x.Pair),.sl (x.Deps.Addr.map (ac .i64)),.sl (x.Deps.Data.map (ac .i64)),.sl (x.Deps.Way.map (ac .i64))]
def aS.enc (x:aS):List AV:=[.sl (x.First.map Cell.enc),.sl (x.Harts.map (md Event.enc)),.sl (x.From.map (ac .i64)),.sl (x.Order.map (ac .i64))]
def bo.enc (x:bo):List AV:=[.v (.int .i64 x.hart),.v (.int .i64 x.at_),.v (.int .i64 x.kind),.v (.int .i64 x.pred),.v (.int .i64 x.succ),.v (.int .i64 x.pair),.v (.int .u64 x.addr),.v (.int .u64 x.load),.v (.int .u64 x.store),.v (.bool x.aq),.v (.bool x.rl)]
theorem mY (x y:Cell):kV Try.prog .neq 35 [(.int .u64 x.Addr),(.int .u64 x.Value)] [(.int .u64 y.Addr),(.int .u64 y.Value)]=some (.bool (!Cell.beq x y)):=CF (by kernel_rfl) (by kernel_rfl)
theorem jf (x y:bo):kV Try.prog .eql 98 [(.int .i64 x.hart),(.int .i64 x.at_),(.int .i64 x.kind),(.int .i64 x.pred),(.int .i64 x.succ),(.int .i64 x.pair),(.int .u64 x.addr),(.int .u64 x.load),(.int .u64 x.store),(.bool x.aq),(.bool x.rl)] [(.int .i64 y.hart),(.int .i64 y.at_),(.int .i64 y.kind),(.int .i64 y.pred),(.int .i64 y.succ),(.int .i64 y.pair),(.int .u64 y.addr),(.int .u64 y.load),(.int .u64 y.store),(.bool y.aq),(.bool y.rl)]=some (.bool (bo.beq x y)):=CE (by kernel_rfl) (by kernel_rfl)
theorem D8:By Try.prog 33 (cI .u64) (fun x=>Value.int .u64 x) bB:=⟨fun _=>rfl,fun _ _=>by kernel_rfl,fun _ _=>by kernel_rfl,fun a b h=>by
  have e:=oV h
  subst e
  simp [Instr.sameBits]⟩
theorem qE (l:(List (Int×Int))) (k:Int):Fa Try.prog 33 33 (cI .u64) bB (cI .u64) 0 l k:=GE (by kernel_rfl) D8 0 (fun _=>by kernel_rfl) l k
theorem jK (l:(List (Int×Int))) (k:Int) (v:Int):Fb Try.prog 33 (cI .u64) bB (cI .u64) l k v:=GF (by kernel_rfl) D8 l k v
noncomputable abbrev pP:=eM Try.prog
noncomputable abbrev sP:=SD Try.prog
noncomputable abbrev lP:=iA Try.prog
noncomputable abbrev dP:=dN Try.prog
abbrev vT:AV:=.v (.bool true)
abbrev vF:AV:=.v (.bool false)
abbrev Mj (a b:Bool):Prop:=AV.v (.bool a)=AV.v (.bool b)
abbrev Mk (a:AV):AV→Prop:=fun x=>x=a
theorem Iy {α:Type} {f:α→List AV} {l:List α} (hf:∀ x,(f x).all kF=true:=by exact fun _=>rfl):fo (l.map f)=true:=AW f l hf
theorem Iz {α:Type} {f:α→List AV} {l:List α} {sz:Nat} (hf:∀ x,Nat.beq (f x).length sz=true:=by exact fun _=>rfl):oY sz (l.map f)=true:=D1 f l hf
abbrev eI:Int→List AV:=ac .i64
abbrev vI (n:Int):AV:=.v (.int .i64 n)
abbrev vU (n:Int):AV:=.v (.int .u64 n)
abbrev pC {ρ:Type} (m:Option ρ) (f:Nat) (xs:List AV) (enc:ρ→AV):Prop:=cP Try.prog m f xs enc
abbrev sC {ρ:Type} (m:Option ρ) (f:Nat) (xs:List AV) (o:List Ob) (R:ρ→AV×List Ob):Prop:=cS Try.prog m f xs o R
abbrev lC {σ τ:Type} (m:σ→Option (σ⊕τ)) (c:Code) (Sf:σ→St) (out:τ→Ex×St):Prop:=∀ s r,m s=some r→dN Try.prog c (Sf s) (rk Sf out r)
abbrev dC {σ τ:Type} (m:σ→Option τ) (c:Code) (Sf:σ→St) (out:τ→Ex×St):Prop:=∀ s r,m s=some r→dN Try.prog c (Sf s) (pk out r)
theorem tP {ρ:Type} {m:Option ρ} {enc:ρ→AV} {f:Nat} {args:List AV} (ord:List (Nat×PT)) (T:Tr ρ True) (hT:T.eval=m:=by kernel_rfl) (hB:jm (zD f) ord (bK Try.prog f)=true:=by kernel_rfl) (h:(fun r=>FV (ik cfg) (dN Try.prog) ord f args r enc T)=(fun r=>T.prop r (fun x=>cV (enc x) (enc x))):=by kernel_rfl):pC m f args enc:=fun r hm=>eM.ofT (cfg:=cfg) names mixed hB ((congrFun h r).mpr (Tr.holds (fun _=>cV.refl _) T trivial (hT.trans hm)))
theorem tD {ρ:Type} {m:Option ρ} {out:ρ→AV×List Ob} {f:Nat} {args:List AV} {o:List Ob} (ord:List (Nat×PT)) (T:Tr ρ True) (hT:T.eval=m:=by kernel_rfl) (hB:jm (zD f) ord (bK Try.prog f)=true:=by kernel_rfl) (h:(fun r=>D5 (ik cfg) (dN Try.prog) ord f args o r out T)=(fun r=>T.prop r (fun x=>out x=out x)):=by kernel_rfl):sC m f args o out:=fun r hm=>SD.ofT (cfg:=cfg) names mixed hB ((congrFun h r).mpr (Tr.holds (fun _=>rfl) T trivial (hT.trans hm)))
theorem CI {σ τ:Type} {Sf:σ→St} {out:τ→Ex×St}:∀ x,FU Sf out x
  | .inl _=>rfl
  | .inr _=>rfl
theorem tR {σ τ:Type} {m:σ→Option (σ⊕τ)} {c:Code} {Sf:σ→St} {out:τ→Ex×St} (ord:List (Nat×PT)) (f:Nat) (hne:∀ t,(out t).1≠.nrm) (T:σ→Tr (σ⊕τ) True) (hT:(fun s=>(T s).eval)=m:=by kernel_rfl) (hB:jm (zD f) ord c=true:=by kernel_rfl) (h:(fun s r=>FT (ik cfg) (dN Try.prog) ord (zD f) c (Sf s) r Sf out (T s))=(fun s r=>(T s).prop r (FU Sf out)):=by kernel_rfl):lC m c Sf out:=fun s r hm=>dN.ofL (cfg:=cfg) mixed hne hB ((congrFun (congrFun h s) r).mpr (Tr.holds CI (T s) trivial ((congrFun hT s).trans hm)))
theorem D9 {σ ρ:Type} {m:σ→Option ρ} {c:Code} {Sf:σ→St} {out:ρ→Ex×St} (ord:List (Nat×PT)) (f:Nat) (T:σ→Tr ρ True) (hT:(fun s=>(T s).eval)=m:=by kernel_rfl) (hB:jm (zD f) ord c=true:=by kernel_rfl) (h:(fun s r=>D4 (ik cfg) (dN Try.prog) ord (zD f) c (Sf s) r out (T s))=(fun s r=>(T s).prop r (fun x=>out x=out x)):=by kernel_rfl):dC m c Sf out:=fun s r hm=>(dN.ofT (cfg:=cfg) mixed hB ((congrFun (congrFun h s) r).mpr (Tr.holds (fun _=>rfl) (T s) trivial ((congrFun hT s).trans hm)))).mono fun _ _ e=>⟨by rw [← e],by rw [← e]⟩
section
variable {ρ:Type} {Γ:Prop}
def oX (pl:bV) {c:Code} {σ τ:Type} {step:σ→Option (σ⊕τ)} {Sf:σ→St} {out:τ→Ex×St} (hs:lC step c Sf out) {n:Nat} {s:σ} {t:τ} (h:Γ→A.iter step n s=some t) (r:Tr ρ Γ):Tr ρ Γ:=.o (iA Try.prog pl c (Sf s) fun e S2=>e=(out t).1∧S2=(out t).2) (fun g=>iA.iter (cfg:=cfg) Sf out hs n s t (h g)) r
def tX (k:Nat) (W:Wk) (f:Nat) {c:Code} {σ τ:Type} {step:σ→Option (σ⊕τ)} {Sf:σ→St} {out:τ→Ex×St} (hs:lC step c Sf out) {n:Nat} {s:σ} {t:τ} (h:Γ→A.iter step n s=some t) (r:Tr ρ Γ):Tr ρ Γ:=.lp k W l0 (out t).1 (out t).2 (oX (zD f) hs h r)
def oQ {c:Code} {σ τ:Type} {m:σ→Option τ} {Sf:σ→St} {out:τ→Ex×St} (hs:dC m c Sf out) {s:σ} {t:τ} (h:Γ→m s=some t) (r:Tr ρ Γ):Tr ρ Γ:=.o (dN Try.prog c (Sf s) fun e S2=>e=(out t).1∧S2=(out t).2) (fun g=>hs s t (h g)) r
def tQ (k:Nat) (W:Wk) {c:Code} {σ τ:Type} {m:σ→Option τ} {Sf:σ→St} {out:τ→Ex×St} (hs:dC m c Sf out) {s:σ} {t:τ} (h:Γ→m s=some t) (r:Tr ρ Γ):Tr ρ Γ:=.lp k W l0 (out t).1 (out t).2 (oQ hs h r)
end

end Go.Proofs.Ytcckeabholabcaa
