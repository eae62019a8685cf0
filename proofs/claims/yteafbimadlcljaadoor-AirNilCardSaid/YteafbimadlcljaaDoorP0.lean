/- What the functions compute, they compute: printed by a program, path by path. No conditions. -/
import Derived.Test.YteafbimadlcljaaDoorProg
import Derived.Test.YteafbimadlcljaaDoorKB
import Derived.Test.YteafbimadlcljaaDoorM1
import Derived.KernelRfl
namespace Go.Proofs.YteafbimadlcljaaDoor
open Go A
set_option linter.unusedVariables false
set_option maxRecDepth 100000
def polF (f:Nat):Pol:={ esc:=match f with | 9=>[1,3] | 23=>[3] | 24=>[2] | 35=>[5] | 43=>[8] | 44=>[3,11] | 63=>[3,4] | 83=>[7] | 84=>[9] | 96=>[7] | 107=>[12] | _=>[],ms:=[],bx:=match f with | 3=>[1] | 4=>[1,4] | 5=>[6,8,10] | 6=>[2,5] | 7=>[11,15,17] | 8=>[1,2] | 10=>[1] | 11=>[1] | 12=>[2,5] | 14=>[1] | 15=>[3] | 16=>[2,4] | 20=>[3] | 21=>[9] | 29=>[3] | 30=>[9] | 32=>[2,4] | 33=>[2,3] | 34=>[1,2] | 35=>[2,3] | 36=>[2,3] | 37=>[1,3,6] | 40=>[1] | 42=>[3] | 43=>[3,10] | 44=>[1,12] | 50=>[3] | 59=>[1] | 62=>[8,9] | 63=>[8] | 64=>[3] | 66=>[0] | 68=>[1] | 77=>[3,7] | 78=>[1] | 93=>[1] | 94=>[2,5] | 95=>[1] | _=>[],st:=[],fz:=[] }
def pureF (f:Nat):Bool:=!(hasN [] f)
noncomputable def cfg:Cfg:={ P:=Tryd.prog,pure:=pureF,pol:=polF }
theorem mixed:cfg.P.follows .mixedOrders=true:=by kernel_rfl
theorem names0 : (cfg.P.funcs.all fun fn => !(fn.name == "runtime.NumGoroutine")) = true := by kernel_rfl
theorem names:NoNum cfg.P:=noNum_of names0
noncomputable def cx (pc:Nat→List AV→(AV→Prop)→Prop) (sc:Nat→List AV→List Ob→(AV→List Ob→Prop)→Prop) (lp:Pol→Code→St→(Ex→St→Prop)→Prop):Ctx:={ P:=Tryd.prog,pure:=pureF,pol:=polF,pcall:=pc,scall:=sc,loop:=lp }
theorem okP {A:Ans} {f:Nat} {args:List AV} {r:AV} (hB:ordB (polF f) A.ord (bodyOf Tryd.prog f)=true) (h:opure (cx (PCall Tryd.prog) (SD Tryd.prog) (LoopD Tryd.prog)) (CodeD Tryd.prog) A f args (fun x=>LeA x r)):PCall Tryd.prog f args (fun x=>x=r):=PCall.ofO (cfg:=cfg) names mixed hB h
theorem okS {A:Ans} {f:Nat} {args:List AV} {o o1:List Ob} {r1:AV} {K:AV→List Ob→Prop} (hB:ordB (polF f) A.ord (bodyOf Tryd.prog f)=true) (h:ostore (cx (PCall Tryd.prog) (SD Tryd.prog) (LoopD Tryd.prog)) (CodeD Tryd.prog) A f args o (fun r o2=>r=r1∧o2=o1)) (hk:K r1 o1):SD Tryd.prog f args o K:=SD.ofO (cfg:=cfg) names mixed hB h hk
theorem okR {pl:Pol} {c:Code} {S S1:St} {e:Ex} {K:Ex→St→Prop} {A:Ans} {we:List (Nat×(Wk×Le))} (hB:ordB pl A.ord c=true) (h:oround (cx (PCall Tryd.prog) (SD Tryd.prog) (LoopD Tryd.prog)) (CodeD Tryd.prog) A pl we c S (fun e2 S2=>e2=e∧S2=S1)) (hk:K e S1):CodeD Tryd.prog c S K:=CodeD.of (cfg:=cfg) mixed hB h hk
theorem okL {pl:Pol} {c:Code} {σ τ:Type} {step:σ→Option (σ⊕τ)} (Sf:σ→St) (out:τ→Ex×St) (hs:∀ s r,step s=some r→CodeD Tryd.prog c (Sf s) (rk Sf out r)) (n:Nat) (s:σ) (t:τ) (h:A.iter step n s=some t):LoopD Tryd.prog pl c (Sf s) fun e S2=>e=(out t).1∧S2=(out t).2:=LoopD.iter (cfg:=cfg) Sf out hs n s t h
def AirStep.enc (x:AirStep):List AV:=[.v (.int .i64 x.Op),.v (.int .i64 x.A_),.v (.int .i64 x.B),.v (.int .i64 x.C_),.v (.int .i64 x.D),.v (.int .i64 x.Imm),.v (.int .i64 x.Bin),.v (.int .i64 x.To),.v (.bool x.Shared)]
def fencepostlaw21_Act.enc (x:fencepostlaw21_Act):List AV:=[.v (.int .i64 x.Kind),.v (.int .i64 x.N),.v (.int .i64 x.S.Op),.v (.int .i64 x.S.A_),.v (.int .i64 x.S.B),.v (.int .i64 x.S.C_),.v (.int .i64 x.S.D),.v (.int .i64 x.S.Imm),.v (.int .i64 x.S.Bin),.v (.int .i64 x.S.To),.v (.bool x.S.Shared)]
def Air.enc (x:Air):List AV:=[.v (.int .i64 x.Regs),.sl (x.Steps.map AirStep.enc)]
noncomputable abbrev pP:=PCall Tryd.prog
noncomputable abbrev sP:=SD Tryd.prog
noncomputable abbrev lP:=LoopD Tryd.prog
noncomputable abbrev dP:=CodeD Tryd.prog
abbrev vT:AV:=.v (.bool true)
abbrev vF:AV:=.v (.bool false)
abbrev eqB (a b:Bool):Prop:=AV.v (.bool a)=AV.v (.bool b)
noncomputable abbrev oP (pc:Nat→List AV→(AV→Prop)→Prop) (sc:Nat→List AV→List Ob→(AV→List Ob→Prop)→Prop) (lp:Pol→Code→St→(Ex→St→Prop)→Prop) (cd:CutP):=opure (cx pc sc lp) cd
noncomputable abbrev oR (pc:Nat→List AV→(AV→Prop)→Prop) (sc:Nat→List AV→List Ob→(AV→List Ob→Prop)→Prop) (lp:Pol→Code→St→(Ex→St→Prop)→Prop) (cd:CutP):=oround (cx pc sc lp) cd
abbrev eqA (a:AV):AV→Prop:=fun x=>x=a
theorem okM {α:Type} {f:α→List AV} {l:List α} (hf:∀ x,(f x).all okCell=true:=by exact fun _=>rfl):okRows (l.map f)=true:=okRows_map f l hf
theorem szM {α:Type} {f:α→List AV} {l:List α} {sz:Nat} (hf:∀ x,Nat.beq (f x).length sz=true:=by exact fun _=>rfl):szOk sz (l.map f)=true:=szOk_map f l hf
theorem cB {a b:Bool} (h:a=b):AV.v (.bool a)=AV.v (.bool b):=congrArg aBool h
abbrev eI:Int→List AV:=eInt .i64
abbrev vI (n:Int):AV:=.v (.int .i64 n)
abbrev vU (n:Int):AV:=.v (.int .u64 n)
abbrev rVC (i:Nat) (v c:List (Nat×AV)):Nat×RAns:=(i,⟨[],[],[],v,c,[],[],[]⟩)
abbrev rV (i:Nat) (v:List (Nat×AV)):Nat×RAns:=(i,⟨[],[],[],v,[],[],[],[]⟩)
abbrev rC (i:Nat) (c:List (Nat×AV)):Nat×RAns:=(i,⟨[],[],[],[],c,[],[],[]⟩)
theorem kP {f:Nat} {args:List AV} {r:AV} {B:Prop} (A:Ans) (hB:ordB (polF f) A.ord (bodyOf Tryd.prog f)=true) (b:LeA r r→B) (h:opure (cx (PCall Tryd.prog) (SD Tryd.prog) (LoopD Tryd.prog)) (CodeD Tryd.prog) A f args (fun x=>LeA x r)=B):PCall Tryd.prog f args (fun x=>x=r):=okP hB (h.symm▸b (LeA.refl r))
theorem kS {f:Nat} {args:List AV} {o o1:List Ob} {r1:AV} {K:AV→List Ob→Prop} {B:Prop} (A:Ans) (hB:ordB (polF f) A.ord (bodyOf Tryd.prog f)=true) (hk:K r1 o1) (b:(r1=r1∧o1=o1)→B) (h:ostore (cx (PCall Tryd.prog) (SD Tryd.prog) (LoopD Tryd.prog)) (CodeD Tryd.prog) A f args o (fun r o2=>r=r1∧o2=o1)=B):SD Tryd.prog f args o K:=okS hB (h.symm▸b ⟨rfl,rfl⟩) hk
theorem kR {pl:Pol} {c:Code} {S S1:St} {e:Ex} {K:Ex→St→Prop} {B:Prop} (A:Ans) (we:List (Nat×(Wk×Le))) (hB:ordB pl A.ord c=true) (hk:K e S1) (b:(e=e∧S1=S1)→B) (h:oround (cx (PCall Tryd.prog) (SD Tryd.prog) (LoopD Tryd.prog)) (CodeD Tryd.prog) A pl we c S (fun e2 S2=>e2=e∧S2=S1)=B):CodeD Tryd.prog c S K:=okR hB (h.symm▸b ⟨rfl,rfl⟩) hk
theorem aI {a r:Prop} (h:a) (k:r):a∧r:=⟨h,k⟩
theorem aB {a b:Bool} {r:Prop} (h:a=b) (k:r):(AV.v (.bool a)=AV.v (.bool b))∧r:=⟨congrArg aBool h,k⟩
theorem aE (k:IntKind) {a b:Int} {r:Prop} (h:(a==b)=true) (z:r):(AV.v (.int k a)=AV.v (.int k b))∧r:=⟨eqI h,z⟩
theorem aL {α:Type} (f:α→List AV) (l:List α) {r:Prop} (k:r):(AV.v (.int .i64 (((l.map f).length:Nat):Int))=AV.v (.int .i64 (l.length:Int)))∧r:=⟨len_map f l,k⟩
theorem aM {α:Type} (f:α→List AV) {l:List α} {i:Int} {x:α} {r:Prop} (h:getI l i=some x) (k:r):(at? (l.map f) i=some (f x))∧r:=⟨at_map f h,k⟩
theorem aN {α:Type} (f:α→List AV) {l:List α} {i:Int} {x:α} {r:Prop} (h:getI l i=some x) (k:r):((l.map f)[i.toNat]?=some (f x))∧r:=⟨at_map' f h,k⟩

end Go.Proofs.YteafbimadlcljaaDoor
